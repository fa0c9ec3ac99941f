/-
  The bag's rows stand apart, whatever their elements: marked full, gone on with one by one, then by many. No program in sight.
  Bag.apart of rows of structs. Printed by gen_ap.py.
  Bag.apartBytes: rows of bytes stand apart. Printed by gen_apb.py.
-/
import Derived.Test.YtpncbggjngamgaaGreatDoorCA08
import Derived.Test.YtpncbggjngamgaaGreatDoorCA07
import Derived.Test.YtpncbggjngamgaaGreatDoorCA01
namespace Go.Proofs.YtpncbggjngamgaaGreatDoor
set_option linter.unusedVariables false
open Go.RowKit Go.ChangeShapes Go.WideShapes

/-- How a row grew. -/
def Grw (w w' : World) (v v' : Value) (n m : Nat) : Prop :=
  (∃ g c, v = .slice (some ⟨g, 0, none⟩) n c ∧ v' = .slice (some ⟨g, 0, none⟩) (n + m) c ∧ w.grownBy w' (some g)) ∨ (v'.ownBlock = some w.heap.size ∧ w.grownBy w' none)
theorem run_app3 {P : Program} {w : World} {t e : TypeId} {size bytes : Nat} (E : El P t e size bytes) (ty : TypeId) {base : Nat} {v : Value} {n : Nat} {xs : List Value} (hown : w.ownsRow base e size v n xs)
    {B : Nat} {A : Option Addr} {m : Nat} (c : Nat) {news : List Value} (hr : Reads w B size A m news) (h1 : ∀ u ∈ news, u.oneCell' = true)
    (h63 : n + m ≤ maxLen) (hbytes : (n + m) * bytes ≤ 140737488355328) (hbase : base ≤ w.heap.size) (hm : 0 < m) :
    ∃ v' w', (Builtin.append_ #[t, t] ty #[v, .slice A m c]).run P w = .ok v' w' ∧ w'.ownsRow base e size v' (n + m) (xs ++ news) ∧ Grw w w' v v' n m := by
  obtain ⟨i, z, hi, hz, hsize, hby, hzs⟩ := E.info
  obtain ⟨a, rfl, _, hnews⟩ := hr.2 hm
  have hl := hr.1
  have hsz := E.pos
  have ht := E.ht
  subst hsize
  subst hby
  have hsmall : n + m ≤ 9223372036854775807 := by simp only [maxLen] at h63; omega
  have hlen : (xs ++ news).length = (n + m) * i.size := by rw [List.length_append, hown.1, hl, Nat.add_mul]
  have grown : ∀ (old : Nat), old < n + m →
      (w.drew.alloc (.cells (xs.toArray ++ news.toArray ++ Builtin.zeroCells z.cells (grownCap w (n + m) old e - (n + m))) e)).ownsRow base e i.size
        (.slice (some ⟨w.heap.size, 0, none⟩) (n + m) (grownCap w (n + m) old e)) (n + m) (xs ++ news) ∧
      w.grownBy (w.drew.alloc (.cells (xs.toArray ++ news.toArray ++ Builtin.zeroCells z.cells (grownCap w (n + m) old e - (n + m))) e)) none := by
    intro old ho
    have hge := grownCap_ge w (n + m) old e
    have hcm : grownCap w (n + m) old e ≤ maxLen := grownCap_le_maxLen w (n + m) old e h63
    refine ⟨⟨hlen, .inr ⟨w.heap.size, _, _, rfl, hbase, heap_alloc_new w.drew _, hge, hcm, ?_, ?_⟩⟩, ⟨rfl, rfl, rfl, by simp, fun k hk _ => Below.heap_alloc w.drew _ k hk⟩⟩
    · simp only [Array.size_append, List.size_toArray, size_zeroCells, hzs, hown.1, hl, ← Nat.add_mul]
      congr 1
      omega
    · simp only [Array.toList_append, List.append_assoc]
      rw [← List.append_assoc, ← hlen]
      exact List.take_left
  rcases hown.2 with ⟨rfl, rfl⟩ | ⟨g, cap, cur, rfl, hbg, hg, hnc, hcm, hcs, htake⟩
  · have hx : xs = [] := List.eq_nil_of_length_eq_zero (by simpa using hown.1)
    subst hx
    have hrun := Go.run_append_nil (P := P) w t ty e i z ht hi hz a m c news hl hnews (by omega) (by omega) (by have hb := hbytes; simp only [Nat.zero_add] at hb; omega)
    have hgr := grown 0 (by omega)
    simp only [Nat.zero_add, List.nil_append, Array.empty_append] at hgr ⊢
    exact ⟨_, _, hrun, hgr.1, .inr ⟨rfl, hgr.2⟩⟩
  · by_cases hroom : n + m ≤ cap
    · have hfit : n * i.size + news.length ≤ cur.size := by rw [hl, hcs, ← Nat.add_mul]; exact Nat.mul_le_mul_right _ hroom
      have hrun := run_append_room (P := P) w t ty e i ht hi g n cap cur hg a m c news hl hnews h1 hroom hfit
      refine ⟨_, _, hrun, ⟨hlen, .inr ⟨g, cap, _, rfl, hbg, setRow_heap w g cur _ e _ hg, hroom, hcm, ?_, ?_⟩⟩, .inl ⟨g, cap, rfl, rfl, ⟨rfl, rfl, rfl, by simp, fun k _ hk => setRow_other w g k _ (fun e => hk (by simp [e]))⟩⟩⟩
      · simp only [List.size_toArray, List.length_append, List.length_take, List.length_drop, Array.length_toList]
        omega
      · rw [htake, ← hlen]
        exact List.take_left
    · have holds : ∀ j u, xs[j]? = some u → w.cell? ((⟨g, 0, none⟩ : Addr).add j) = some u := hown.cells (g := g) rfl
      have hrun := run_append_grow (P := P) w t ty e i z ht hi hz ⟨g, 0, none⟩ n cap xs hown.1 holds a m c news hl hnews (by omega) (by omega) (growslice_fits (by omega) hbytes)
      have hgr := grown cap (by omega)
      exact ⟨_, _, hrun, hgr.1, .inr ⟨rfl, hgr.2⟩⟩
/-- 's = append(s, xs...)' of at least one, told sharply. -/
theorem wpList_app3 {P : Program} {ops : Array Oper} {rest : List Oper} {o : Oper} {a : Act} {Q : Exit → Act → World → Prop} {w : World} {t e : TypeId} {size bytes : Nat} (E : El P t e size bytes)
    (hgd : o.guard = none) (s x : Operand) (ho : o.op = .call { callee := .builtin .append, args := #[s, x], argTypes := #[t, t] })
    {base : Nat} {v : Value} {n : Nat} {xs : List Value} (hown : w.ownsRow base e size v n xs) (hs : a.eval s = v)
    {B : Nat} {A : Option Addr} {m c : Nat} {news : List Value} (hr : Reads w B size A m news) (hx : a.eval x = .slice A m c) (h1 : ∀ u ∈ news, u.oneCell' = true)
    (h63 : n + m ≤ maxLen) (hbytes : (n + m) * bytes ≤ 140737488355328) (hbase : base ≤ w.heap.size) (hm : 0 < m)
    (h : ∀ v' w', w'.ownsRow base e size v' (n + m) (xs ++ news) → Grw w w' v v' n m → wpList P ops Q rest (a.put o.dst v') w') :
    wpList P ops Q (o :: rest) a w := by
  obtain ⟨v', w', hrun, h2, h3⟩ := run_app3 E o.type hown c hr h1 h63 hbytes hbase hm
  refine wpList_plain hgd fun K hK => ?_
  unfold Oper.wp execOp
  simp only [ho, resolve, invoke, builtin, Sem.run_bind, Sem.run_pure, Result.andThen_ok, List.map_toArray, List.map_cons, List.map_nil, hs, hx, hrun]
  exact hK _ _ (h v' w' h2 h3)
theorem Grw.by {w w' : World} {v v' : Value} {n m : Nat} (h : Grw w w' v v' n m) : w.grownBy w' v.ownBlock := by
  rcases h with ⟨g, c, rfl, rfl, h⟩ | ⟨_, h⟩
  · exact h
  · exact ⟨h.os, h.tape, h.output, h.size, fun k hk _ => h.block k hk (by simp)⟩
theorem Grw.blk {w w' : World} {v v' : Value} {n m : Nat} (h : Grw w w' v v' n m) : v'.ownBlock = v.ownBlock ∨ v'.ownBlock = some w.heap.size := by
  rcases h with ⟨g, c, rfl, rfl, h⟩ | ⟨h, _⟩
  · exact .inl rfl
  · exact .inr h
/-- A slice of the same block that ends no later keeps what it says. -/
theorem Grw.keeps {w w' : World} {v v' u : Value} {n m k base b' size : Nat} {e : TypeId} {xs ys news : List Value} (h : Grw w w' v v' n m) (hv : w.ownsRow base e size v n xs) (hv' : w'.ownsRow base e size v' (n + m) (xs ++ news))
    (hu : w.ownsRow b' e size u k ys) (hk : k ≤ n) : w'.ownsRow b' e size u k ys := by
  rcases h with ⟨g, c, rfl, rfl, hg⟩ | ⟨_, hg⟩
  · rcases hu.2 with ⟨rfl, rfl⟩ | ⟨g2, cap2, cur2, rfl, hb2, hc2, hn2, hm2, hs2, ht2⟩
    · exact ⟨hu.1, .inl ⟨rfl, rfl⟩⟩
    · by_cases hgg : g2 = g
      · subst hgg
        rcases hv.2 with ⟨h0, _⟩ | ⟨g3, cap3, cur3, e3, _, hc3, _, _, hs3, ht3⟩
        · cases h0
        · injection e3 with e31 _ e32
          injection e31 with e31
          injection e31 with e31
          subst e31 e32
          rcases hv'.2 with ⟨h0, _⟩ | ⟨g4, cap4, cur4, e4, _, hc4, _, _, hs4, ht4⟩
          · cases h0
          · injection e4 with e41 _ e42
            injection e41 with e41
            injection e41 with e41
            subst e41 e42
            have hcc : cur2 = cur3 := by
              have := hc2.symm.trans hc3
              injection this with this
              injection this
            subst hcc
            have hcap : cap2 * size = c * size := by rw [← hs2, ← hs3]
            refine ⟨hu.1, .inr ⟨g2, cap2, cur4, rfl, hb2, hc4, hn2, hm2, by rw [hs4, hcap], ?_⟩⟩
            have hle : k * size ≤ n * size := Nat.mul_le_mul_right _ hk
            have hl : xs.length = n * size := hv.1
            have e1 : cur4.toList.take (n * size) = xs := by
              have h5 := congrArg (List.take (n * size)) ht4
              rw [List.take_take, Nat.min_eq_left (Nat.mul_le_mul_right _ (by omega)), ← hl, List.take_left] at h5
              rwa [hl] at h5
            have e2 := congrArg (List.take (k * size)) (e1.trans ht3.symm)
            rw [List.take_take, List.take_take, Nat.min_eq_left hle] at e2
            exact e2.trans ht2
      · exact hu.kept hg (.inr (by simp [Value.ownBlock]; exact hgg))
  · exact hu.kept hg (by cases hq : u.ownBlock <;> simp)

/-- A kind of list: its elements' type, their slices', their cells, where the bag keeps it, the marks. -/
structure Kd where
  e : TypeId
  es : TypeId
  sz : Nat
  j : Nat
  mrk : Nat → Nat → List Value
structure Kd.ok (K : Kd) : Prop where
  len : ∀ k i, (K.mrk k i).length = K.sz
  pos : 0 < K.sz
  one : ∀ k i, ∀ u ∈ K.mrk k i, u.oneCell' = true
  ees : K.e ≠ K.es
  eb : K.e ≠ 53
  esb : K.es ≠ 53
def mkR (K : Kd) (k n : Nat) : List Value := (List.range n).flatMap (K.mrk k)
theorem mkR_len {K : Kd} (hK : K.ok) (k n : Nat) : (mkR K k n).length = n * K.sz := by unfold mkR; rw [flatG_len (hK.len k), List.length_range]
theorem mkR_snoc (K : Kd) (k n : Nat) : mkR K k (n + 1) = mkR K k n ++ K.mrk k n := by unfold mkR; rw [List.range_succ, List.flatMap_append, List.flatMap_singleton]
theorem mkR_at {K : Kd} (hK : K.ok) {k n i c : Nat} {u : Value} (hi : i < n) (hu : (K.mrk k i)[c]? = some u) : (mkR K k n)[i * K.sz + c]? = some u :=
  flatG_get (hK.len k) (List.range n) i c i u (by rw [List.getElem?_eq_getElem (by simpa using hi)]; simp) hu
/-- Its cells are its own. -/
def Has (K : Kd) (W : World) (base : Nat) (s : Sl) (xs : List Value) : Prop := W.ownsRow base K.e K.sz s.v s.n xs
section
variable {K : Kd} {W W' : World} {base : Nat} {s : Sl} {xs : List Value}
theorem Has.own (h : Has K W base s xs) : W.ownsRow base K.e K.sz s.v s.n xs := h
theorem Has.kept {R : Nat → Prop} (h : Has K W base s xs) (k : Kept R W W') (hn : ∀ i, s.v.ownBlock = some i → ¬ R i) : Has K W' base s xs := own_kept h k hn
theorem Has.later (h : Has K W base s xs) (hb : Below W.heap.size W W') : Has K W' base s xs := h.kept (Kept.of_new hb (fun _ => False)) (fun _ _ h => h)
/-- Its block, and the cells in it. -/
theorem Has.blk (h : Has K W base s xs) (h0 : 0 < s.n) : ∃ gg cur, s.A = some ⟨gg, 0, none⟩ ∧ Blk W gg K.e cur ∧ base ≤ gg ∧ s.n * K.sz ≤ cur.size ∧ cur.toList.take (s.n * K.sz) = xs := by
  rcases h.2 with ⟨_, e⟩ | ⟨gg, cap, cur, hv, hb, hg, hnc, _, hs, ht⟩
  · omega
  · injection hv with hA _ _
    exact ⟨gg, cur, hA, hg, hb, by rw [hs]; exact Nat.mul_le_mul_right _ hnc, ht⟩
theorem Has.cellAt (h : Has K W base s xs) {i c : Nat} {u : Value} (hu : xs[i * K.sz + c]? = some u) {gg : Nat} (hA : s.A = some ⟨gg, 0, none⟩) : W.cell? ⟨gg, i * K.sz + c, none⟩ = some u := by
  have h1 := h.own.cells (g := gg) (by show (Value.slice s.A s.n s.c).ownBlock = _; rw [hA]; rfl) _ _ hu
  rwa [add_none, Nat.zero_add] at h1
/-- A mark's cells. -/
theorem Has.mark (hK : K.ok) {k i : Nat} (h : Has K W base s (mkR K k s.n)) (hi : i < s.n) : ∃ gg, s.A = some ⟨gg, 0, none⟩ ∧ W.cell? ⟨gg, i * K.sz, none⟩ = (K.mrk k i)[0]? ∧ ∀ c u, (K.mrk k i)[c]? = some u → W.cell? ⟨gg, i * K.sz + c, none⟩ = some u := by
  obtain ⟨gg, cur, hA, _⟩ := h.blk (by omega)
  have hl := hK.len k i
  have hp := hK.pos
  refine ⟨gg, hA, ?_, fun c u hu => h.cellAt (mkR_at hK hi hu) hA⟩
  obtain ⟨u, hu⟩ : ∃ u, (K.mrk k i)[0]? = some u := ⟨_, List.getElem?_eq_getElem (by omega)⟩
  have := h.cellAt (mkR_at hK hi hu) hA
  rw [hu]
  simpa using this
/-- The cells of one item are overwritten. -/
theorem Has.put (h : Has K W base s xs) {i gg : Nat} (hA : s.A = some ⟨gg, 0, none⟩) (hi : i < s.n) {ys : List Value} (hy : ys.length = K.sz) :
    ∃ cur, Blk W gg K.e cur ∧ i * K.sz + ys.toArray.size ≤ cur.size ∧ Has K (W.setRow gg (putIn cur (i * K.sz) ys.toArray)) base s (xs.take (i * K.sz) ++ ys ++ xs.drop (i * K.sz + K.sz)) ∧ Kept (fun b => b = gg) W (W.setRow gg (putIn cur (i * K.sz) ys.toArray)) := by
  rcases h.2 with ⟨_, e⟩ | ⟨g', cap, cur, hv, hb, hg, h1, h2, h3, h4⟩
  · omega
  · injection hv with hv1 _ hv3
    rw [hA] at hv1
    injection hv1 with hv1
    injection hv1 with hv1 _ _
    subst hv1
    have hik : i * K.sz + K.sz ≤ s.n * K.sz := by rw [← Nat.succ_mul]; exact Nat.mul_le_mul_right _ hi
    have hnc : s.n * K.sz ≤ cur.size := by rw [h3]; exact Nat.mul_le_mul_right _ h1
    have hX : xs.length = s.n * K.sz := h.1
    have hsz : ys.toArray.size = K.sz := by simpa using hy
    have hcur : cur.toList = xs ++ cur.toList.drop (s.n * K.sz) := by rw [← h4, List.take_append_drop]
    refine ⟨cur, hg, by rw [hsz]; omega, ⟨?_, .inr ⟨gg, cap, _, ?_, hb, setRow_heap W gg cur _ K.e (0, 0) hg, h1, h2, ?_, ?_⟩⟩, (Kept.of_grown (only_setRow W gg _)).mono (fun j _ hj => by injection hj with hj; exact hj.symm)⟩
    · simp only [List.length_append, List.length_take, List.length_drop, hX, hy]; omega
    · show Value.slice s.A s.n s.c = _
      rw [hA, hv3]
    · unfold putIn
      rw [List.size_toArray, List.length_append, List.length_append, List.length_take, List.length_drop, hsz, Array.length_toList, Array.length_toList, hsz]
      omega
    · unfold putIn
      simp only [List.toList_toArray]
      rw [hsz]
      have e1 : cur.toList.take (i * K.sz) = xs.take (i * K.sz) := by rw [hcur, List.take_append_of_le_length (by omega)]
      have e2 : cur.toList.drop (i * K.sz + K.sz) = xs.drop (i * K.sz + K.sz) ++ cur.toList.drop (s.n * K.sz) := by
        have := congrArg (List.drop (i * K.sz + K.sz)) hcur
        rw [this, List.drop_append_of_le_length (by omega)]
      rw [e1, e2, ← List.append_assoc]
      refine (List.take_append_of_le_length ?_).trans (List.take_of_length_le ?_)
      · simp only [List.length_append, List.length_take, List.length_drop, hX, hy]; omega
      · simp only [List.length_append, List.length_take, List.length_drop, hX, hy]; omega
/-- Where an element is one cell. -/
theorem Has.put1 (h : Has K W base s xs) (h1 : K.sz = 1) {i gg : Nat} (hA : s.A = some ⟨gg, 0, none⟩) (u : Value) : Has K (W.setCell ⟨gg, i, none⟩ u) base s (xs.set i u) ∧ Kept (fun b => b = gg) W (W.setCell ⟨gg, i, none⟩ u) := by
  refine ⟨?_, kept_setC W gg i u⟩
  unfold Has at h ⊢
  rw [h1] at h ⊢
  refine ⟨by rw [List.length_set]; exact h.1, ?_⟩
  rcases h.2 with ⟨h0, _⟩ | ⟨g2, cap, cur, e2, hb, hg, hnc, hm, hs, ht⟩
  · rw [show s.v = .slice s.A s.n s.c from rfl, hA] at h0; cases h0
  · rw [show s.v = .slice s.A s.n s.c from rfl, hA] at e2
    injection e2 with e21 _ e22
    injection e21 with e21
    injection e21 with e21
    subst e21
    refine .inr ⟨gg, cap, cur.setIfInBounds i u, by rw [show s.v = .slice s.A s.n s.c from rfl, hA, e22], hb, Blk.set_ (show Blk W gg K.e cur from hg) i u, hnc, hm, by simpa using hs, ?_⟩
    rw [Array.toList_setIfInBounds, List.take_set, ht]
end
/-- What is marked up to a place. -/
def Marked (K : Kd) (k i : Nat) (Y : List Value) : Prop := Y.take (i * K.sz) = mkR K k i
theorem marked_zero (K : Kd) (k : Nat) (Y : List Value) : Marked K k 0 Y := by unfold Marked mkR; simp
theorem marked_put {K : Kd} (hK : K.ok) {k i n : Nat} {Y : List Value} (h : Marked K k i Y) (hl : Y.length = n * K.sz) (hi : i < n) : Marked K k (i + 1) (Y.take (i * K.sz) ++ K.mrk k i ++ Y.drop (i * K.sz + K.sz)) := by
  unfold Marked at *
  have hik : i * K.sz + K.sz ≤ n * K.sz := by rw [← Nat.succ_mul]; exact Nat.mul_le_mul_right _ hi
  have hm := hK.len k i
  rw [mkR_snoc, ← h, Nat.succ_mul]
  refine (List.take_append_of_le_length ?_).trans (List.take_of_length_le ?_)
  · simp only [List.length_append, List.length_take, hl, hm]; omega
  · simp only [List.length_append, List.length_take, hl, hm]; omega
theorem marked_put1 {K : Kd} (hK : K.ok) (h1 : K.sz = 1) {k i n : Nat} {Y : List Value} {u : Value} (h : Marked K k i Y) (hl : Y.length = n * K.sz) (hi : i < n) (hu : K.mrk k i = [u]) : Marked K k (i + 1) (Y.set i u) := by
  unfold Marked at *
  rw [mkR_snoc, ← h, hu, h1, Nat.mul_one, Nat.mul_one]
  rw [h1, Nat.mul_one] at hl
  rw [List.take_add_one, List.take_set_of_le (Nat.le_refl _), List.getElem?_set_self (by omega)]
  rfl
theorem marked_all {K : Kd} {k n : Nat} {Y : List Value} (h : Marked K k n Y) (hl : Y.length = n * K.sz) : Y = mkR K k n := by
  unfold Marked at h
  rw [← hl, List.take_length] at h
  exact h
/-- The bag, and one of its lists. -/
structure BagJ (K : Kd) (W : World) (base g : Nat) (C : Array Value) (G : Sl) (L : List Sl) : Prop where
  blk : Blk W g 53 C
  cj : C[K.j]? = some G.v
  row : W.ownsRow base K.es 1 G.v G.n (slv L)
  len : L.length = G.n
  few : G.n ≤ 300
/-- The rows' blocks. -/
def RowF (L : List Sl) (b : Nat) : Prop := ∃ s ∈ L, s.v.ownBlock = some b
section
variable {K : Kd} {W W' W0 Wn : World} {base g : Nat} {C : Array Value} {G : Sl} {L : List Sl}
theorem BagJ.cell (h : BagJ K W base g C G L) : W.cell? ⟨g, K.j, none⟩ = some G.v := by rw [h.blk.cell]; exact h.cj
theorem BagJ.kept {R : Nat → Prop} (h : BagJ K W base g C G L) (k : Kept R W W') (hg : ¬ R g) (hr : ∀ i, G.v.ownBlock = some i → ¬ R i) : BagJ K W' base g C G L :=
  ⟨h.blk.kept k hg, h.cj, own_kept h.row k hr, h.len, h.few⟩
theorem BagJ.put (hK : K.ok) {s : Sl} {X : List Value} (h : BagJ K W base g C G L) (hs : Has K W base s X) (hk : Kept (fun b => s.v.ownBlock = some b) W W') : BagJ K W' base g C G L :=
  h.kept hk (fun hR => own_blk_ne hs.own h.blk hK.eb hR) (fun i hi hR => own_ne h.row hs.own hK.ees.symm i hi hR)
/-- What the first loops leave. -/
structure Ap1 (K : Kd) (W0 W : World) (base g : Nat) (C : Array Value) (G : Sl) (L : List Sl) (n : Nat) : Prop where
  rows : ∀ (k : Nat) (s : Sl), L[k]? = some s → ∃ X, Has K W base s X
  done : ∀ (k : Nat) (s : Sl), k < n → L[k]? = some s → Has K W base s (mkR K k s.n)
  sep : ∀ (j k : Nat) (s t : Sl) (i : Nat), L[j]? = some s → L[k]? = some t → j ≠ k → s.v.ownBlock = some i → t.v.ownBlock ≠ some i
  few : ∀ (k : Nat) (s : Sl), L[k]? = some s → s.n ≤ 1099511627776
  bag : BagJ K W base g C G L
  kp : Kept (RowF L) W0 W
theorem Ap1.turn {n : Nat} {s : Sl} (h : Ap1 K W0 Wn base g C G L n) (hK : K.ok) (hs : L[n]? = some s) (hk : Kept (fun b => s.v.ownBlock = some b) Wn W) (hY : Has K W base s (mkR K n s.n)) : Ap1 K W0 W base g C G L (n + 1) := by
  obtain ⟨X, hX⟩ := h.rows n s hs
  refine ⟨fun k t ht => ?_, fun k t hkn ht => ?_, h.sep, h.few, h.bag.put hK hX hk, h.kp.trans hk (fun b _ hb => ⟨s, List.mem_of_getElem? hs, hb⟩)⟩
  · by_cases e : k = n
    · subst e
      rw [hs] at ht
      injection ht with ht
      subst ht
      exact ⟨_, hY⟩
    · obtain ⟨X2, hX2⟩ := h.rows k t ht
      exact ⟨X2, hX2.kept hk fun i hi hr => h.sep k n t s i ht hs e hi hr⟩
  · by_cases e : k = n
    · subst e
      rw [hs] at ht
      injection ht with ht
      subst ht
      exact hY
    · exact (h.done k t (by omega) ht).kept hk fun i hi hr => h.sep k n t s i ht hs e hi hr
end
/-- Within one row's turn. -/
structure In2 (K : Kd) (Wn W : World) (base S0 n : Nat) (s oS : Sl) (O : List Sl) (i : Nat) (l : Sl) (O' : List Sl) (oS' : Sl) (d : Bool) : Prop where
  lhas : Has K W base l (mkR K n i)
  ln : l.n = i
  lb : l.v.ownBlock = s.v.ownBlock ∨ ∃ b, l.v.ownBlock = some b ∧ Wn.heap.size ≤ b
  shas : Has K W base s (mkR K n s.n)
  sn : s.n ≤ i
  orow : W.ownsRow S0 K.es 1 oS'.v oS'.n (slv O')
  ob : oS'.v.ownBlock = oS.v.ownBlock ∨ ∃ b, oS'.v.ownBlock = some b ∧ Wn.heap.size ≤ b
  oc : (d = false ∧ O' = O ∧ oS' = oS) ∨ (d = true ∧ s.n + 1 ≤ i ∧ ∃ o, O' = O ++ [o] ∧ o.n = s.n + 1 ∧ Has K W base o (mkR K n (s.n + 1)) ∧ (o.v.ownBlock = s.v.ownBlock ∨ ∃ b, o.v.ownBlock = some b ∧ Wn.heap.size ≤ b))
  k : Kept (fun b => s.v.ownBlock = some b ∨ oS.v.ownBlock = some b) Wn W
theorem sl_of {W : World} {base n sz : Nat} {e : TypeId} {v : Value} {xs : List Value} (h : W.ownsRow base e sz v n xs) : ∃ l : Sl, v = l.v ∧ l.n = n := by
  obtain ⟨A, c, hv, _⟩ := (OwnW.of_own h).shape
  exact ⟨⟨A, n, c⟩, hv, rfl⟩
section
variable {K : Kd} {Wn W W' : World} {base S0 n : Nat} {s oS : Sl} {O : List Sl} {i : Nat} {l : Sl} {O' : List Sl} {oS' : Sl} {d : Bool}
theorem In2.later (h : In2 K Wn W base S0 n s oS O i l O' oS' d) (hb : Below W.heap.size W W') : In2 K Wn W' base S0 n s oS O i l O' oS' d := by
  refine ⟨h.lhas.later hb, h.ln, h.lb, h.shas.later hb, h.sn, own_kept h.orow (Kept.of_new hb (fun _ => False)) (fun _ _ h => h), h.ob, ?_, h.k.trans (Kept.of_new hb (fun b => s.v.ownBlock = some b ∨ oS.v.ownBlock = some b)) (fun _ _ h => h)⟩
  rcases h.oc with q | ⟨q1, q2, o, q3, q4, q5, q6⟩
  · exact .inl q
  · exact .inr ⟨q1, q2, o, q3, q4, q5.later hb, q6⟩
theorem In2.app (hK : K.ok) (h : In2 K Wn W base S0 n s oS O i l O' oS' d) (hn : Wn.heap.size ≤ W.heap.size) {v' : Value} (hg : Grw W W' l.v v' i 1)
    (ho : W'.ownsRow base K.e K.sz v' (i + 1) (mkR K n i ++ K.mrk n i)) : ∃ l', v' = l'.v ∧ In2 K Wn W' base S0 n s oS O (i + 1) l' O' oS' d := by
  obtain ⟨l', rfl, hl'⟩ := sl_of ho
  have hl : W.ownsRow base K.e K.sz l.v i (mkR K n i) := by have := h.lhas; unfold Has at this; rwa [h.ln] at this
  have kk : Kept (fun b => l.v.ownBlock = some b) W W' := Kept.of_grown hg.by
  have hlb : l'.v.ownBlock = s.v.ownBlock ∨ ∃ b, l'.v.ownBlock = some b ∧ Wn.heap.size ≤ b := by
    rcases hg.blk with q | q
    · rw [q]; exact h.lb
    · exact .inr ⟨_, q, hn⟩
  refine ⟨l', rfl, ?_, hl', hlb, ?_, by have := h.sn; omega, ?_, h.ob, ?_, ?_⟩
  · unfold Has
    rw [hl', mkR_snoc]
    exact ho
  · exact hg.keeps hl ho h.shas.own h.sn
  · exact own_kept h.orow kk (fun i hi hr => own_ne h.orow hl hK.ees.symm i hi hr)
  · rcases h.oc with q | ⟨q1, q2, o, q3, q4, q5, q6⟩
    · exact .inl q
    · exact .inr ⟨q1, by omega, o, q3, q4, hg.keeps hl ho q5.own (by omega), q6⟩
  · refine h.k.trans kk (fun i hi hr => ?_)
    rcases h.lb with q | ⟨b, q, hb⟩
    · left; rw [← q]; exact hr
    · rw [q] at hr
      injection hr with hr
      omega
theorem In2.one (hK : K.ok) (h : In2 K Wn W base S0 n s oS O i l O' oS' false) (hn : Wn.heap.size ≤ W.heap.size) (hi : i = s.n + 1) {v' : Value} (hg : Grw W W' oS'.v v' oS'.n 1)
    (ho : W'.ownsRow S0 K.es 1 v' (oS'.n + 1) (slv O' ++ [l.v])) : ∃ oS2, v' = oS2.v ∧ oS2.n = oS'.n + 1 ∧ In2 K Wn W' base S0 n s oS O i l (O' ++ [l]) oS2 true := by
  obtain ⟨o2, rfl, ho2⟩ := sl_of ho
  have kk : Kept (fun b => oS'.v.ownBlock = some b) W W' := Kept.of_grown hg.by
  have hlk : Has K W' base l (mkR K n i) := h.lhas.kept kk (fun i hi hr => own_ne h.lhas.own h.orow hK.ees i hi hr)
  refine ⟨o2, rfl, ho2, hlk, h.ln, h.lb, h.shas.kept kk (fun i hi hr => own_ne h.shas.own h.orow hK.ees i hi hr), h.sn, ?_, ?_, ?_, ?_⟩
  · rw [ho2, slv_snoc]
    exact ho
  · rcases hg.blk with q | q
    · rw [q]; exact h.ob
    · exact .inr ⟨_, q, hn⟩
  · rcases h.oc with ⟨_, q2, _⟩ | ⟨q1, _⟩
    · refine .inr ⟨rfl, by omega, l, by rw [q2], by rw [h.ln, hi], by rw [← hi]; exact hlk, h.lb⟩
    · cases q1
  · refine h.k.trans kk (fun i hi hr => ?_)
    rcases h.ob with q | ⟨b, q, hb⟩
    · right; rw [← q]; exact hr
    · rw [q] at hr
      injection hr with hr
      omega
end
/-- What the second loops leave. -/
structure Ap2 (K : Kd) (W0 W : World) (base g : Nat) (C : Array Value) (G : Sl) (L O M : List Sl) (oS mS : Sl) (n : Nat) : Prop where
  rows : ∀ (k : Nat) (s : Sl), L[k]? = some s → Has K W base s (mkR K k s.n)
  sep : ∀ (j k : Nat) (s t : Sl) (i : Nat), L[j]? = some s → L[k]? = some t → j ≠ k → s.v.ownBlock = some i → t.v.ownBlock ≠ some i
  few : ∀ (k : Nat) (s : Sl), L[k]? = some s → s.n ≤ 1099511627776
  bag : BagJ K W base g C G L
  gl : ∀ i, G.v.ownBlock = some i → i < W0.heap.size
  kp : Kept (RowF L) W0 W
  orow : W.ownsRow W0.heap.size K.es 1 oS.v oS.n (slv O)
  on : oS.n = n
  mrow : W.ownsRow W0.heap.size K.es 1 mS.v mS.n (slv M)
  mn : mS.n = n
  om : ∀ i, oS.v.ownBlock = some i → mS.v.ownBlock ≠ some i
  oh : ∀ (k : Nat) (o : Sl), O[k]? = some o → (∀ s : Sl, L[k]? = some s → o.n = s.n + 1) ∧ Has K W base o (mkR K k o.n) ∧ ∀ (j : Nat) (s : Sl) (i : Nat), j ≠ k → L[j]? = some s → o.v.ownBlock = some i → s.v.ownBlock ≠ some i
  mh : ∀ (k : Nat) (o : Sl), M[k]? = some o → (∀ s : Sl, L[k]? = some s → o.n = s.n + 70) ∧ Has K W base o (mkR K k o.n) ∧ ∀ (j : Nat) (s : Sl) (i : Nat), j ≠ k → L[j]? = some s → o.v.ownBlock = some i → s.v.ownBlock ≠ some i
theorem get_snoc {α : Type} {l : List α} {a x : α} {k : Nat} (h : (l ++ [a])[k]? = some x) : (k < l.length ∧ l[k]? = some x) ∨ (k = l.length ∧ x = a) := by
  by_cases hk : k < l.length
  · rw [List.getElem?_append_left hk] at h
    exact .inl ⟨hk, h⟩
  · rw [List.getElem?_append_right (by omega)] at h
    have h2 := (List.getElem?_eq_some_iff.1 h).1
    simp at h2
    have : k - l.length = 0 := by omega
    rw [this] at h
    simp at h
    exact .inr ⟨by omega, h.symm⟩
section
variable {K : Kd} {W0 Wn W W2 : World} {base g : Nat} {C : Array Value} {G : Sl} {L O M : List Sl} {oS mS : Sl} {n : Nat}
theorem Ap2.ol (h : Ap2 K W0 W base g C G L O M oS mS n) : O.length = n := by have := h.orow.1; rw [slv_len, h.on] at this; omega
theorem Ap2.ml (h : Ap2 K W0 W base g C G L O M oS mS n) : M.length = n := by have := h.mrow.1; rw [slv_len, h.mn] at this; omega
theorem Ap2.start (h : Ap2 K W0 W base g C G L O M oS mS n) {s : Sl} (hs : L[n]? = some s) : In2 K W W base W0.heap.size n s oS O s.n s O oS false :=
  ⟨h.rows n s hs, rfl, .inl rfl, h.rows n s hs, Nat.le_refl _, h.orow, .inl rfl, .inl ⟨rfl, rfl, rfl⟩, Kept.refl _ _⟩
/-- The bag stands while a row of its takes its turn. -/
theorem Ap2.bagIn (hK : K.ok) (h : Ap2 K W0 Wn base g C G L O M oS mS n) {s : Sl} (hs : L[n]? = some s) (hk : Kept (fun b => s.v.ownBlock = some b ∨ oS.v.ownBlock = some b) Wn W) : BagJ K W base g C G L := by
  refine h.bag.kept hk (fun hR => ?_) (fun i hi hR => ?_)
  · rcases hR with hR | hR
    · exact own_blk_ne (h.rows n s hs).own h.bag.blk hK.eb hR
    · exact own_blk_ne h.orow h.bag.blk hK.esb hR
  · rcases hR with hR | hR
    · exact own_ne h.bag.row (h.rows n s hs).own hK.ees.symm i hi hR
    · have h1 := h.gl i hi
      have h2 := (own_ge h.orow hR).1
      omega
theorem Ap2.moreIn (hK : K.ok) (h : Ap2 K W0 Wn base g C G L O M oS mS n) {s : Sl} (hs : L[n]? = some s) (hk : Kept (fun b => s.v.ownBlock = some b ∨ oS.v.ownBlock = some b) Wn W) : W.ownsRow W0.heap.size K.es 1 mS.v mS.n (slv M) :=
  own_kept h.mrow hk fun i hi hR => by
    rcases hR with hR | hR
    · exact own_ne h.mrow (h.rows n s hs).own hK.ees.symm i hi hR
    · exact h.om i hR hi
theorem Ap2.next (hK : K.ok) (h : Ap2 K W0 Wn base g C G L O M oS mS n) {s : Sl} (hs : L[n]? = some s) {l : Sl} {O' : List Sl} {oS' : Sl}
    (q : In2 K Wn W base W0.heap.size n s oS O (s.n + 70) l O' oS' true) {v' : Value} (hg : Grw W W2 mS.v v' mS.n 1) (ho : W2.ownsRow W0.heap.size K.es 1 v' (mS.n + 1) (slv M ++ [l.v])) :
    ∃ mS', v' = mS'.v ∧ Ap2 K W0 W2 base g C G L O' (M ++ [l]) oS' mS' (n + 1) := by
  obtain ⟨m2, rfl, hm2⟩ := sl_of ho
  have kk : Kept (fun b => mS.v.ownBlock = some b) W W2 := Kept.of_grown hg.by
  have hol := h.ol
  have hml := h.ml
  rcases q.oc with ⟨q1, _⟩ | ⟨_, _, o, hO, hon, hoh, hob⟩
  · cases q1
  have hmW : W.ownsRow W0.heap.size K.es 1 mS.v mS.n (slv M) := h.moreIn hK hs q.k
  have old : ∀ (t : Sl) (xs : List Value), Has K Wn base t xs → (∀ i, t.v.ownBlock = some i → s.v.ownBlock ≠ some i) → Has K W2 base t xs := fun t xs ht hne => by
    have h1 : Has K W base t xs := ht.kept q.k fun i hi hR => by
      rcases hR with hR | hR
      · exact hne i hi hR
      · exact own_ne ht.own h.orow hK.ees i hi hR
    exact h1.kept kk fun i hi hR => own_ne h1.own hmW hK.ees i hi hR
  have new : ∀ (t : Sl) (xs : List Value), Has K W base t xs → Has K W2 base t xs := fun t xs ht => ht.kept kk fun i hi hR => own_ne ht.own hmW hK.ees i hi hR
  have sepN : ∀ (t : Sl), (t.v.ownBlock = s.v.ownBlock ∨ ∃ b, t.v.ownBlock = some b ∧ Wn.heap.size ≤ b) → ∀ (j : Nat) (u : Sl) (i : Nat), j ≠ n → L[j]? = some u → t.v.ownBlock = some i → u.v.ownBlock ≠ some i := fun t ht j u i hj hu hi hui => by
    rcases ht with e | ⟨b, e, hb⟩
    · exact h.sep n j s u i hs hu (Ne.symm hj) (by rw [← e]; exact hi) hui
    · have h1 := (own_ge (h.rows j u hu).own hui).2
      rw [e] at hi
      injection hi with hi
      omega
  have hBag : BagJ K W2 base g C G L := (h.bagIn hK hs q.k).kept kk (fun hR => own_blk_ne hmW (h.bagIn hK hs q.k).blk hK.esb hR) (fun i hi hR => by
    have h1 := h.gl i hi
    have h2 := (own_ge hmW hR).1
    omega)
  refine ⟨m2, rfl, ⟨fun k t ht => ?_, h.sep, h.few, hBag, h.gl, ?_, ?_, ?_, ?_, ?_, ?_, fun k t ht => ?_, fun k t ht => ?_⟩⟩
  · by_cases hk : k = n
    · subst hk
      rw [hs] at ht
      injection ht with ht
      subst ht
      exact new s _ q.shas
    · exact old t _ (h.rows k t ht) fun i hi => h.sep k n t s i ht hs hk hi
  · refine (h.kp.trans q.k (fun b hb hR => ?_)).trans kk (fun b hb hR => ?_)
    · rcases hR with hR | hR
      · exact ⟨s, List.mem_of_getElem? hs, hR⟩
      · have := (own_ge h.orow hR).1; omega
    · have := (own_ge hmW hR).1; omega
  · exact own_kept q.orow kk fun i hi hR => by
      rcases q.ob with e | ⟨b, e, hb⟩
      · rw [e] at hi
        exact h.om i hi hR
      · rw [e] at hi
        injection hi with hi
        have := (own_ge h.mrow hR).2
        omega
  · have h1 := q.orow.1
    rw [slv_len, hO, List.length_append, hol] at h1
    simp at h1
    omega
  · rw [hm2, slv_snoc]
    exact ho
  · rw [hm2, h.mn]
  · intro i hi hR
    have hx : oS'.v.ownBlock = some i := hi
    rcases hg.blk with e | e
    · rw [e] at hR
      rcases q.ob with e2 | ⟨b, e2, hb⟩
      · rw [e2] at hx
        exact h.om i hx hR
      · rw [e2] at hx
        injection hx with hx
        have := (own_ge h.mrow hR).2
        omega
    · rw [e] at hR
      injection hR with hR
      have := (own_ge q.orow hx).2
      omega
  · rw [hO] at ht
    rcases get_snoc ht with ⟨hk, ht⟩ | ⟨hk, rfl⟩
    · obtain ⟨g1, g2, g3⟩ := h.oh k t ht
      exact ⟨g1, old t _ g2 fun i hi hsi => g3 n s i (by omega) hs hi hsi, g3⟩
    · rw [hk, hol]
      refine ⟨fun s' hs' => ?_, ?_, fun j u i hj => sepN t hob j u i hj⟩
      · rw [hs] at hs'
        injection hs' with hs'
        rw [hon, hs']
      · rw [hon]
        exact new t _ hoh
  · rcases get_snoc ht with ⟨hk, ht⟩ | ⟨hk, rfl⟩
    · obtain ⟨g1, g2, g3⟩ := h.mh k t ht
      exact ⟨g1, old t _ g2 fun i hi hsi => g3 n s i (by omega) hs hi hsi, g3⟩
    · rw [hk, hml]
      refine ⟨fun s' hs' => ?_, ?_, fun j u i hj => sepN t q.lb j u i hj⟩
      · rw [hs] at hs'
        injection hs' with hs'
        rw [q.ln, hs']
      · rw [q.ln]
        exact new t _ q.lhas
end
/-- The bag's list j, out of the whole. -/
theorem BagN.kindJ {K : Kd} {W : World} {base g : Nat} {G : Nat → Sl} {L : Nat → List Sl} (h : BagN W base g G L) (hj : K.j < 19) (h1 : K.e = bel K.j) (h2 : K.es = bty K.j) (h3 : K.sz = bsz K.j) :
    ∃ C, C.size = 19 ∧ (∀ j, j < 19 → C[j]? = some (G j).v) ∧ Ap1 K W W base g C (G K.j) (L K.j) 0 := by
  obtain ⟨C, hC, hs, hc⟩ := h.blk
  refine ⟨C, hs, hc, ⟨fun k s hk => ?_, fun k s hk => absurd hk (by omega), fun j k s t i => h.sep K.j hj j k s t i, fun k s hk => h.fewN K.j hj s (List.mem_of_getElem? hk), ⟨hC, hc K.j hj, by rw [h2]; exact h.row K.j hj, h.len hj, h.few K.j hj⟩, Kept.refl _ _⟩⟩
  obtain ⟨xs, hx⟩ := h.has K.j hj s (List.mem_of_getElem? hk)
  exact ⟨xs, by unfold Has; rw [h1, h3]; exact hx⟩
end Go.Proofs.YtpncbggjngamgaaGreatDoor
namespace Go.Proofs.YtpncbggjngamgaaGreatDoor
set_option linter.unusedVariables false
open Go.RowKit

def mkW (k i : Nat) : Int := (1048576 * (k : Int) + (i : Int) + 1) % 4294967296
theorem num_any (n i : Nat) (w : World) (hn : n ≤ 300) (hi : i ≤ 1099511627946) : Calls Tryz.prog 76 #[.int .i64 n, .int .i64 i] w fun e w' => e = .returned (.int .i64 (1048576 * (n : Int) + (i : Int) + 1)) ∧ w = w' := by
  have w1 : IntKind.i64.wrap (1048576 * (n : Int)) = 1048576 * n := by rw [IntKind.wrap_i64]; omega
  have w2 : IntKind.i64.wrap (1048576 * (n : Int) + i) = 1048576 * n + i := by rw [IntKind.wrap_i64]; omega
  have w3 : IntKind.i64.wrap (1048576 * (n : Int) + i + 1) = 1048576 * n + i + 1 := by rw [IntKind.wrap_i64]; omega
  go_enter Tryz.func76, Tryz.ntmps76
  go_wp2
  go_ret
  exact ⟨rfl, rfl⟩
theorem u32_wrap (n i : Nat) : IntKind.u32.wrap (1048576 * (n : Int) + i + 1) = mkW n i := by unfold mkW; simp [IntKind.wrap, IntKind.bits, IntKind.signed]
theorem own_cellT {W : World} {base n : Nat} {e : TypeId} {v : Value} {xs : List Value} (h : W.ownsRow base e 1 v n xs) {k : Nat} {u : Value} (hu : xs[k]? = some u) : ∃ gg c, v = .slice (some ⟨gg, 0, none⟩) n c ∧ W.cell? ⟨gg, k, none⟩ = some u := by
  have hk : k < xs.length := (List.getElem?_eq_some_iff.1 hu).1
  rcases h.2 with ⟨_, h0⟩ | ⟨gg, cap, cur, hv, hb, hg, _⟩
  · have := h.1; omega
  · refine ⟨gg, cap, hv, ?_⟩
    have := h.cells (g := gg) (by rw [hv]; rfl) k u hu
    rwa [add_none, Nat.zero_add] at this
theorem own_cellS {W : World} {base : Nat} {e : TypeId} {G : Sl} {xs : List Value} (h : W.ownsRow base e 1 G.v G.n xs) {k : Nat} {u : Value} (hu : xs[k]? = some u) : ∃ gg, G.A = some ⟨gg, 0, none⟩ ∧ W.cell? ⟨gg, k, none⟩ = some u := by
  obtain ⟨gg, c, hv, hc⟩ := own_cellT h hu
  injection hv with hv _ _
  exact ⟨gg, hv, hc⟩
def P1 (K : Kd) (W0 : World) (base g : Nat) (C : Array Value) (G : Sl) (L : List Sl) (nv : Value) (W : World) : Prop := ∃ n : Nat, nv = .int .i64 n ∧ n ≤ G.n ∧ Hid (Ap1 K W0 W base g C G L n)
def P1i (K : Kd) (Wn : World) (base n : Nat) (s : Sl) (iv : Value) (W : World) : Prop :=
  ∃ i : Nat, iv = .int .i64 i ∧ i ≤ s.n ∧ Hid (∃ Y, Has K W base s Y ∧ Marked K n i Y ∧ Kept (fun b => s.v.ownBlock = some b) Wn W)
def P2 (K : Kd) (W0 : World) (base g : Nat) (C : Array Value) (G : Sl) (L : List Sl) (ov mv nv : Value) (W : World) : Prop :=
  ∃ (n : Nat) (O M : List Sl) (oS mS : Sl), ov = oS.v ∧ mv = mS.v ∧ nv = .int .i64 n ∧ n ≤ G.n ∧ Hid (Ap2 K W0 W base g C G L O M oS mS n)
def P2i (K : Kd) (W0 Wn : World) (base n : Nat) (s oS : Sl) (O : List Sl) (ov lv iv : Value) (W : World) : Prop :=
  ∃ (i : Nat) (l oS' : Sl) (O' : List Sl) (d : Bool), ov = oS'.v ∧ lv = l.v ∧ iv = .int .i64 i ∧ i ≤ s.n + 70 ∧ d = decide (s.n < i) ∧ Hid (In2 K Wn W base W0.heap.size n s oS O i l O' oS' d)
theorem exec_key_eqS {o : Oper} {ev : Operand → Value} {x y : Operand} {t : TypeId} (ho : o.op = .binOp .eql 68 x y t) (a b : Int × Int × Int) (hx : ev x = keyV a) (hy : ev y = keyV b) (W : World) :
    (execOp ev o).run Tryz.prog W = .ok (.value (.bool (decide (a = b)))) W := by
  unfold execOp
  simp only [ho]
  rw [hx, hy]
  have e1 : (eqGuard .eql 68 x y (keyV a) (keyV b)).run Tryz.prog W = .ok () W := run_eqGuard_agg _ _ _ _ _ _ _ Tryz.eqGuardType68
  simp [binOp, Sem.run_bind, Sem.run_pure, key_eq, e1, Result.andThen_ok]
theorem exec_key_same {o : Oper} {ev : Operand → Value} {x y : Operand} {t : TypeId} (ho : o.op = .binOp .eql 68 x y t) (a b c : Int) (hx : ev x = .agg #[.int .u8 a, .int .u32 b, .int .u32 c]) (hy : ev y = .agg #[.int .u8 a, .int .u32 b, .int .u32 c]) (W : World) :
    (execOp ev o).run Tryz.prog W = .ok (.value (.bool true)) W := by
  have h := exec_key_eqS ho (a, b, c) (a, b, c) hx hy W
  rw [decide_eq_true rfl] at h
  exact h
theorem exec_head_same {o : Oper} {ev : Operand → Value} {x y : Operand} {t : TypeId} (ho : o.op = .binOp .eql 58 x y t) (a : Int) (hx : ev x = .agg #[.int .u16 0, .int .u8 0, .int .u8 0, .int .u32 a, .int .u32 0, .int .i32 0, .int .u16 0, .int .u16 0]) (hy : ev y = .agg #[.int .u16 0, .int .u8 0, .int .u8 0, .int .u32 a, .int .u32 0, .int .i32 0, .int .u16 0, .int .u16 0]) (W : World) :
    (execOp ev o).run Tryz.prog W = .ok (.value (.bool true)) W := by
  unfold execOp
  simp only [ho]
  rw [hx, hy]
  have e1 : (eqGuard .eql 58 x y (.agg #[.int .u16 0, .int .u8 0, .int .u8 0, .int .u32 a, .int .u32 0, .int .i32 0, .int .u16 0, .int .u16 0]) (.agg #[.int .u16 0, .int .u8 0, .int .u8 0, .int .u32 a, .int .u32 0, .int .i32 0, .int .u16 0, .int .u16 0])).run Tryz.prog W = .ok () W := run_eqGuard_agg _ _ _ _ _ _ _ Tryz.eqGuardType58
  have e2 : (Op.equal 58 (.agg #[.int .u16 0, .int .u8 0, .int .u8 0, .int .u32 a, .int .u32 0, .int .i32 0, .int .u16 0, .int .u16 0]) (.agg #[.int .u16 0, .int .u8 0, .int .u8 0, .int .u32 a, .int .u32 0, .int .i32 0, .int .u16 0, .int .u16 0])).run Tryz.prog W = .ok true W := by
    have h := hd_eq ⟨0, 0, 0, a, 0, 0, 0, 0⟩ ⟨0, 0, 0, a, 0, 0, 0, 0⟩ W
    rw [(eqHd_iff _ _).2 rfl] at h
    exact h
  simp [binOp, Sem.run_bind, Sem.run_pure, e2, e1, Result.andThen_ok]
end Go.Proofs.YtpncbggjngamgaaGreatDoor
namespace Go.Proofs.YtpncbggjngamgaaGreatDoor
set_option linter.unusedVariables false
open Go.RowKit

def mkB (k j : Nat) : Int := (31 * (k : Int) + 7 * (j : Int) + 3) % 256
@[reducible] def kBytes : Kd := { e := 5, es := 59, sz := 1, j := 0, mrk := fun k i => [.int .u8 (mkB k i)] }
theorem kBytes_ok : kBytes.ok := ⟨fun _ _ => rfl, by decide, fun k i u hu => by simp at hu; rcases hu with rfl; rfl, by decide, by decide, by decide⟩
theorem el_lstBytes : El Tryz.prog 33 59 1 24 := El.mk' Tryz.underlying33 (z := .slice none 0 0) (by kernel_rfl) rfl (by decide)
theorem MarkBytes {W : World} {base m i : Nat} {s : Sl} (h : Has kBytes W base s (mkR kBytes m s.n)) (hi : i < s.n) : ∃ gg, s.A = some ⟨gg, 0, none⟩ ∧ W.cell? ⟨gg, i, none⟩ = some (.int .u8 (mkB m i)) := by
  obtain ⟨gg, hA, h0, _⟩ := h.mark kBytes_ok hi
  rw [show kBytes.sz = 1 from rfl, Nat.mul_one] at h0
  exact ⟨gg, hA, h0⟩
theorem u8_wrap' (x : Int) : IntKind.u8.wrap x = x % 256 := by simp [IntKind.wrap, IntKind.bits, IntKind.signed]
theorem wrapsB (n i : Nat) (hn : n ≤ 300) (hi : i ≤ 1099511627946) : IntKind.i64.wrap (31 * (n : Int)) = 31 * n ∧ IntKind.i64.wrap (7 * (i : Int)) = 7 * i ∧ IntKind.i64.wrap (31 * (n : Int) + 7 * i) = 31 * n + 7 * i ∧ IntKind.i64.wrap (31 * (n : Int) + 7 * i + 3) = 31 * n + 7 * i + 3 ∧ IntKind.u8.wrap (31 * (n : Int) + 7 * i + 3) = mkB n i :=
  ⟨by rw [IntKind.wrap_i64]; omega, by rw [IntKind.wrap_i64]; omega, by rw [IntKind.wrap_i64]; omega, by rw [IntKind.wrap_i64]; omega, by rw [u8_wrap']; rfl⟩
set_option maxRecDepth 100000 in
set_option maxHeartbeats 16000000 in
theorem apartBytes_any (W0 : World) (base g : Nat) (C : Array Value) (G : Sl) (L : List Sl) (h0 : Ap1 kBytes W0 W0 base g C G L 0) (hbase : base ≤ W0.heap.size) :
    Calls Tryz.prog 41 #[.pointer (some ⟨g, 0, none⟩)] W0 fun e w' => e = .returned (.bool true) ∧ Kept (RowF L) W0 w' := by
  obtain ⟨GA, K, Gc⟩ := G
  have HA := Lib.hid h0
  have hK : K ≤ 300 := h0.bag.few
  have HGl : Hid (∀ i, (⟨GA, K, Gc⟩ : Sl).v.ownBlock = some i → i < W0.heap.size) := Lib.hid (fun i hi => (own_ge h0.bag.row hi).2)
  have HBs := Lib.hid hbase
  clear h0 hbase
  go_enter Tryz.func41, Tryz.ntmps41
  go_wp2_with fail
  go_loopw [3] (P1 kBytes W0 base g C ⟨GA, K, Gc⟩ L) (fun n _ => K - (intOf n).toNat)
  case atStart => exact ⟨0, rfl, Nat.zero_le _, HA⟩
  case round =>
    obtain ⟨n, rfl, hn, HX⟩ := hrel
    replace hn : n ≤ K := hn
    clear HA
    generalize wr = wn at *
    have y0 := HX.out.bag.cell
    dsimp only [Sl.v] at y0
    by_cases hlt : n < K
    · have hd : decide ((n : Int) < K) = true := decide_eq_true (by omega)
      obtain ⟨s, hs⟩ : ∃ s, L[n]? = some s := ⟨L[n]'(by rw [HX.out.bag.len]; exact hlt), List.getElem?_eq_getElem _⟩
      obtain ⟨gg, hgA, hrow⟩ := own_cellS HX.out.bag.row (slv_get hs)
      dsimp only at hgA
      subst hgA
      obtain ⟨sA, sn, sc⟩ := s
      have HS := Lib.hid (And.intro hs (HX.out.few n _ hs))
      have hsn : sn ≤ 1099511627776 := HS.out.2
      clear hs
      dsimp only [Sl.v] at hrow
      go_wp2_with fail
      clear y0 hrow
      go_loopw [4] (P1i kBytes wn base n ⟨sA, sn, sc⟩) (fun i _ => sn - (intOf i).toNat)
      case atStart => exact ⟨0, rfl, Nat.zero_le _, Lib.hid (by obtain ⟨X, hX⟩ := HX.out.rows n _ HS.out.1; exact ⟨X, hX, marked_zero _ _ _, Kept.refl _ _⟩)⟩
      case round =>
        obtain ⟨i, rfl, hi, hY⟩ := hrel
        replace hi : i ≤ sn := hi
        generalize wr = wi at *
        obtain ⟨Y, HY⟩ := hY.out
        replace HY := Lib.hid HY
        clear hY
        obtain ⟨X, hX⟩ := HX.out.rows n _ HS.out.1
        have HBg := Lib.hid (HX.out.bag.put kBytes_ok hX HY.out.2.2)
        clear hX X
        have y0 := HBg.out.cell
        dsimp only [Sl.v] at y0
        obtain ⟨gg2, hgA2, hrow⟩ := own_cellS HBg.out.row (slv_get HS.out.1)
        injection hgA2 with hgA2
        injection hgA2 with hgA2
        subst hgA2
        dsimp only [Sl.v] at hrow
        by_cases hil : i < sn
        · have hd2 : decide ((i : Int) < sn) = true := decide_eq_true (by omega)
          obtain ⟨gb, cur, hsA, hbk, hgb, hsz, htk⟩ := HY.out.1.blk (show 0 < sn by omega)
          replace hsA : sA = some ⟨gb, 0, none⟩ := hsA
          subst hsA
          obtain ⟨w1, w2, w3, w4, w5⟩ := wrapsB n i (by omega) (by omega)
          have hYl : Y.length = sn * kBytes.sz := HY.out.1.1
          obtain ⟨z, hz⟩ : ∃ z, Y[i]? = some z := ⟨Y[i]'(by rw [hYl]; show i < sn * 1; omega), List.getElem?_eq_getElem _⟩
          have hcx := HY.out.1.cellAt (i := i) (c := 0) (u := z) (by simpa using hz) rfl
          rw [show i * kBytes.sz + 0 = i from by show i * 1 + 0 = i; omega] at hcx
          have hfx := hbk.frozen i
          have HP1 := Lib.hid (HY.out.1.put1 (i := i) rfl rfl (.int .u8 (mkB n i)))
          clear hgb hbk hsz htk hz
          go_wp2_with fail
          go_roundw
          case rel =>
            refine ⟨i + 1, by push_cast; rfl, hil, Lib.hid ⟨_, HP1.out.1, marked_put1 kBytes_ok rfl HY.out.2.1 hYl hil rfl, HY.out.2.2.trans HP1.out.2 (fun b hb e => by rw [show b = gb from e]; rfl)⟩⟩
          case measure =>
            simp only [intOf]
            omega
        · have hd2 : decide ((i : Int) < sn) = false := decide_eq_false (by omega)
          go_wp2_with fail
          go_roundw
          case rel =>
            have hYm : Y = mkR kBytes n sn := marked_all (K := kBytes) (k := n) (n := sn) (Y := Y) (by have h := HY.out.2.1; have e : i = sn := (by omega); rw [e] at h; exact h) HY.out.1.1
            exact ⟨n + 1, by push_cast; rfl, hlt, Lib.hid (HX.out.turn kBytes_ok HS.out.1 HY.out.2.2 (by have h := HY.out.1; rw [hYm] at h; exact h))⟩
          case measure =>
            simp only [intOf]
            omega
    · have hd : decide ((n : Int) < K) = false := decide_eq_false (by omega)
      have HA2 : Hid (Ap2 kBytes W0 wn base g C ⟨GA, K, Gc⟩ L [] [] ⟨none, 0, 0⟩ ⟨none, 0, 0⟩ 0) := Lib.hid ⟨fun k s hs => HX.out.done k s (by have h2 := (List.getElem?_eq_some_iff.1 hs).1; have h3 : L.length = K := HX.out.bag.len; omega) hs, HX.out.sep, HX.out.few, HX.out.bag, HGl.out, HX.out.kp, World.ownsRow_nil _ _ _ _, rfl, World.ownsRow_nil _ _ _ _, rfl, fun i hi => by simp [Value.ownBlock] at hi, fun k o ho => by simp at ho, fun k o ho => by simp at ho⟩
      clear HX
      go_wp2_with fail
      clear y0 hd hn hlt
      go_loopw [5, 6, 7] (P2 kBytes W0 base g C ⟨GA, K, Gc⟩ L) (fun _ _ n _ => K - (intOf n).toNat)
      case atStart => exact ⟨0, [], [], ⟨none, 0, 0⟩, ⟨none, 0, 0⟩, rfl, rfl, rfl, Nat.zero_le _, HA2⟩
      case round =>
        obtain ⟨n, O, M, oS, mS, rfl, rfl, rfl, hn, HX⟩ := hrel
        replace hn : n ≤ K := hn
        clear HA2
        generalize wr = wn2 at *
        have y0 := HX.out.bag.cell
        dsimp only [Sl.v] at y0
        by_cases hlt : n < K
        · have hd : decide ((n : Int) < K) = true := decide_eq_true (by omega)
          obtain ⟨s, hs⟩ : ∃ s, L[n]? = some s := ⟨L[n]'(by rw [HX.out.bag.len]; exact hlt), List.getElem?_eq_getElem _⟩
          obtain ⟨gg, hgA, hrow⟩ := own_cellS HX.out.bag.row (slv_get hs)
          dsimp only at hgA
          subst hgA
          obtain ⟨sA, sn, sc⟩ := s
          have HS := Lib.hid (And.intro hs (HX.out.few n _ hs))
          have hsn : sn ≤ 1099511627776 := HS.out.2
          clear hs
          dsimp only [Sl.v] at hrow
          go_wp2_with fail
          clear y0 hrow
          go_loopw [5, 8, 9] (P2i kBytes W0 wn2 base n ⟨sA, sn, sc⟩ oS O) (fun _ _ i _ => sn + 70 - (intOf i).toNat)
          case atStart => exact ⟨sn, ⟨sA, sn, sc⟩, oS, O, false, rfl, rfl, rfl, Nat.le_add_right _ _, by simp, Lib.hid (HX.out.start HS.out.1)⟩
          case round =>
            obtain ⟨i, l, oS', O', d, rfl, rfl, rfl, hi, hdd, HI⟩ := hrel
            replace hi : i ≤ sn + 70 := hi
            replace hdd : d = decide (sn < i) := hdd
            generalize wr = wi at *
            have HBg := Lib.hid (HX.out.bagIn kBytes_ok HS.out.1 HI.out.k)
            have y0 := HBg.out.cell
            dsimp only [Sl.v] at y0
            obtain ⟨gg2, hgA2, hrow⟩ := own_cellS HBg.out.row (slv_get HS.out.1)
            injection hgA2 with hgA2
            injection hgA2 with hgA2
            subst hgA2
            dsimp only [Sl.v] at hrow
            have hln := HI.out.ln
            have w0 : IntKind.i64.wrap ((sn : Int) + 70) = sn + 70 := by rw [IntKind.wrap_i64]; omega
            by_cases hil : i < sn + 70
            · have hd2 : decide ((i : Int) < sn + 70) = true := decide_eq_true (by omega)
              have hd3 : decide (i < sn + 70) = true := decide_eq_true hil
              obtain ⟨w1, w2, w3, w4, w5⟩ := wrapsB n i (by omega) (by omega)
              have HKw := HI.out.k.size
              obtain ⟨lA, ln, lc⟩ := l
              replace hln : ln = i := hln
              subst hln
              have hbb : Below wi.heap.size wi (wi.alloc (.cells #[.int .u8 (mkB n ln)] 5)) := (Below.refl _ _).alloc (Nat.le_refl _) _
              have HIb := Lib.hid (HI.out.later hbb)
              have HRd : Hid (Reads (wi.alloc (.cells #[.int .u8 (mkB n ln)] 5)) (wi.heap.size + 1) 1 (some ⟨wi.heap.size, 0, none⟩) 1 (kBytes.mrk n ln)) := Lib.hid ⟨rfl, fun _ => ⟨_, rfl, Nat.lt_succ_self _, fun j u hu => by rw [add_none, Nat.zero_add, (Blk.new wi 5 #[.int .u8 (mkB n ln)]).cell]; simpa using hu⟩⟩
              have HKb := Lib.hid (Nat.le_trans HKw hbb.size)
              have HBz := Lib.hid (Nat.le_trans (Nat.le_trans HBs.out HX.out.kp.size) (Nat.le_trans HKw hbb.size))
              clear hbb
              by_cases his : ln = sn
              · subst his
                have hdf : d = false := by rw [hdd]; simp
                subst hdf
                have HON : Hid (oS'.n = n) := Lib.hid (by
                  rcases HI.out.oc with ⟨_, _, q⟩ | ⟨q, _⟩
                  · rw [q]; exact HX.out.on
                  · cases q)
                clear hdd hil hi
                go_wp2_with (first | (at_builtin; refine wpList_app3 el_u8 rfl (.tmp 82) (.tmp 90) rfl (show World.ownsRow (wi.alloc (.cells #[.int .u8 (mkB n ln)] 5)) base 5 1 (.slice lA ln lc) ln (mkR kBytes n ln) from HIb.out.lhas) rfl HRd.out rfl (kBytes_ok.one n ln) (by simp only [maxLen]; omega) (by omega) HBz.out (by decide) ?_; intro v2 w2 ho2 hg2; obtain ⟨l2, hv2, HI2x⟩ := HIb.out.app kBytes_ok HKb.out hg2 ho2; subst hv2; have HI2 := Lib.hid HI2x; have HBg2 := Lib.hid (HX.out.bagIn kBytes_ok HS.out.1 HI2x.k); clear ho2 hg2 HI2x; clear y0 hrow; have y0 := HBg2.out.cell; dsimp only [Sl.v] at y0; obtain ⟨gg3, hgA3, hrow⟩ := own_cellS HBg2.out.row (slv_get HS.out.1); injection hgA3 with hgA3; injection hgA3 with hgA3; subst hgA3; dsimp only [Sl.v] at hrow; obtain ⟨lA2, ln2, lc2⟩ := l2; dsimp only [Sl.v]) | (at_builtin; have hb4 : Below w2.heap.size w2 (w2.alloc (.cells #[.slice lA2 ln2 lc2] 59)) := (Below.refl _ _).alloc (Nat.le_refl _) _; have HI4 := Lib.hid (HI2.out.later hb4); have HRd4 : Hid (Reads (w2.alloc (.cells #[.slice lA2 ln2 lc2] 59)) (w2.heap.size + 1) 1 (some ⟨w2.heap.size, 0, none⟩) 1 [.slice lA2 ln2 lc2]) := Lib.hid (Reads.one_new _ _ _); have HK4 := Lib.hid (Nat.le_trans HI2.out.k.size hb4.size); go_must (refine wpList_app3 el_lstBytes rfl (.tmp 102) (.tmp 104) rfl HI4.out.orow rfl HRd4.out rfl (by simp [Value.oneCell']) (by have := HON.out; simp only [maxLen]; omega) (by have := HON.out; omega) (Nat.le_trans HX.out.kp.size HK4.out) (by decide) ?_); intro v5 w5 ho5 hg5; obtain ⟨oS5, hv5, hn5, HI5x⟩ := HI4.out.one kBytes_ok HK4.out rfl hg5 ho5; subst hv5; have HI5 := Lib.hid HI5x; clear ho5 hg5 HI5x hb4 y0 hrow))
                go_roundw
                case rel => exact ⟨_, _, _, ⟨ln + 1, ⟨lA2, ln2, lc2⟩, oS5, _, true, rfl, rfl, by push_cast; rfl, by show ln + 1 ≤ ln + 70; omega, by simp, HI5⟩, rfl, rfl, rfl⟩
                case measure =>
                  simp only [intOf]
                  omega
              · have hne : ((ln : Int) == (sn : Int)) = false := by simp; omega
                have hdt : d = true := by
                  rw [hdd]
                  have := HI.out.sn
                  dsimp only at this
                  simp
                  omega
                go_wp2_with (at_builtin; go_must (refine wpList_app3 el_u8 rfl (.tmp 82) (.tmp 90) rfl (show World.ownsRow (wi.alloc (.cells #[.int .u8 (mkB n ln)] 5)) base 5 1 (.slice lA ln lc) ln (mkR kBytes n ln) from HIb.out.lhas) rfl HRd.out rfl (kBytes_ok.one n ln) (by simp only [maxLen]; omega) (by omega) HBz.out (by decide) ?_); intro v2 w2 ho2 hg2; obtain ⟨l2, hv2, HI2x⟩ := HIb.out.app kBytes_ok HKb.out hg2 ho2; subst hv2; have HI2 := Lib.hid HI2x; have HBg2 := Lib.hid (HX.out.bagIn kBytes_ok HS.out.1 HI2x.k); clear ho2 hg2 HI2x; clear y0 hrow; have y0 := HBg2.out.cell; dsimp only [Sl.v] at y0; obtain ⟨gg3, hgA3, hrow⟩ := own_cellS HBg2.out.row (slv_get HS.out.1); injection hgA3 with hgA3; injection hgA3 with hgA3; subst hgA3; dsimp only [Sl.v] at hrow; obtain ⟨lA2, ln2, lc2⟩ := l2; dsimp only [Sl.v])
                go_roundw
                case rel => exact ⟨_, _, _, ⟨ln + 1, ⟨lA2, ln2, lc2⟩, oS', O', d, rfl, rfl, by push_cast; rfl, by show ln + 1 ≤ sn + 70; omega, by rw [hdt]; have := HI.out.sn; dsimp only at this; simp; omega, HI2⟩, rfl, rfl, rfl⟩
                case measure =>
                  simp only [intOf]
                  omega
            · have hd2 : decide ((i : Int) < sn + 70) = false := decide_eq_false (by omega)
              have hd3 : decide (i < sn + 70) = false := decide_eq_false hil
              have hdt : d = true := by rw [hdd]; simp; omega
              have hi70 : i = sn + 70 := by omega
              subst hdt
              have HI7 := Lib.hid HI.out
              rw [hi70] at HI7
              clear hi70 hi
              obtain ⟨lA, ln, lc⟩ := l
              have HMn : Hid (mS.n ≤ 300) := Lib.hid (by have := HX.out.mn; omega)
              have hbb : Below wi.heap.size wi (wi.alloc (.cells #[.slice lA ln lc] 59)) := (Below.refl _ _).alloc (Nat.le_refl _) _
              have HIb := Lib.hid (HI7.out.later hbb)
              have HMb := Lib.hid (HX.out.moreIn kBytes_ok HS.out.1 HIb.out.k)
              have HRd : Hid (Reads (wi.alloc (.cells #[.slice lA ln lc] 59)) (wi.heap.size + 1) 1 (some ⟨wi.heap.size, 0, none⟩) 1 [.slice lA ln lc]) := Lib.hid (Reads.one_new _ _ _)
              have HBz := Lib.hid (Nat.le_trans HX.out.kp.size (Nat.le_trans HI.out.k.size hbb.size))
              clear hbb
              go_wp2_with (at_builtin; go_must (refine wpList_app3 el_lstBytes rfl (.tmp 106) (.tmp 108) rfl HMb.out rfl HRd.out rfl (by simp [Value.oneCell']) (by have := HMn.out; simp only [maxLen]; omega) (by have := HMn.out; omega) HBz.out (by decide) ?_); intro v2 w2 ho2 hg2; obtain ⟨mS2, hv2, HX2x⟩ := HX.out.next kBytes_ok HS.out.1 HIb.out hg2 ho2; subst hv2; have HX2 := Lib.hid HX2x; clear ho2 hg2 HX2x y0 hrow)
              go_roundw
              case rel => first | exact ⟨n + 1, _, _, _, mS2, rfl, rfl, by push_cast; rfl, hlt, HX2⟩ | exact ⟨_, _, _, ⟨n + 1, _, _, _, mS2, rfl, rfl, by push_cast; rfl, hlt, HX2⟩, rfl, rfl, rfl⟩
              case measure =>
                simp only [intOf]
                omega
        · have hd : decide ((n : Int) < K) = false := decide_eq_false (by omega)
          have hnK : n = K := by omega
          subst hnK
          obtain ⟨oA, on, oc⟩ := oS
          obtain ⟨mA, mn, mc⟩ := mS
          obtain rfl : on = n := by have := HX.out.on; dsimp only at this; omega
          obtain rfl : mn = on := by have := HX.out.mn; dsimp only at this; omega
          dsimp only [Sl.v]
          go_wp2_with fail
          clear y0 hd hlt
          go_loopw [10] (fun nv W => ∃ m : Nat, nv = .int .i64 m ∧ m ≤ mn ∧ W = wn2) (fun m _ => mn - (intOf m).toNat)
          case atStart => exact ⟨0, rfl, Nat.zero_le _, rfl⟩
          case round =>
            obtain ⟨m, rfl, hm, hw⟩ := hrel
            obtain rfl : wn2 = wr := hw.symm
            have y0 := HX.out.bag.cell
            dsimp only [Sl.v] at y0
            by_cases hml : m < mn
            · have hd : decide ((m : Int) < mn) = true := decide_eq_true (by omega)
              obtain ⟨s, hs⟩ : ∃ s, L[m]? = some s := ⟨L[m]'(by rw [HX.out.bag.len]; exact hml), List.getElem?_eq_getElem _⟩
              obtain ⟨o, ho⟩ : ∃ o, O[m]? = some o := ⟨O[m]'(by rw [HX.out.ol]; omega), List.getElem?_eq_getElem _⟩
              obtain ⟨q, hq⟩ : ∃ q, M[m]? = some q := ⟨M[m]'(by rw [HX.out.ml]; omega), List.getElem?_eq_getElem _⟩
              obtain ⟨gg, hgA1, hrow⟩ := own_cellS HX.out.bag.row (slv_get hs)
              obtain ⟨go, hgA2, hrow2⟩ := own_cellS HX.out.orow (slv_get ho)
              obtain ⟨gq, hgA3, hrow3⟩ := own_cellS HX.out.mrow (slv_get hq)
              dsimp only at hgA1 hgA2 hgA3
              subst hgA1 hgA2 hgA3
              have HS := Lib.hid (And.intro (HX.out.rows m s hs) (And.intro (HX.out.few m s hs) (And.intro (HX.out.oh m o ho).2.1 (HX.out.mh m q hq).2.1)))
              have e1 := (HX.out.oh m o ho).1 s hs
              have e2 := (HX.out.mh m q hq).1 s hs
              obtain ⟨sA, sn, sc⟩ := s
              obtain ⟨oA, on, oc⟩ := o
              obtain ⟨qA, qn, qc⟩ := q
              have HN : Hid (on = sn + 1 ∧ qn = sn + 70 ∧ sn ≤ 1099511627776) := Lib.hid ⟨e1, e2, HS.out.2.1⟩
              dsimp only [Sl.v] at hrow hrow2 hrow3
              have hqn : qn ≤ 1099511627846 := by have := HN.out; omega
              clear hs ho hq e1 e2
              go_wp2_with fail
              go_loopw [11] (fun iv W => ∃ i : Nat, iv = .int .i64 i ∧ i ≤ qn ∧ W = wn2) (fun i _ => qn - (intOf i).toNat)
              case atStart => exact ⟨0, rfl, Nat.zero_le _, rfl⟩
              case round =>
                obtain ⟨i, rfl, hi, hw⟩ := hrel
                obtain rfl : wn2 = wr := hw.symm
                by_cases hiq : i < qn
                · have hd2 : decide ((i : Int) < qn) = true := decide_eq_true (by omega)
                  obtain ⟨gb, hqA, hcx⟩ := MarkBytes HS.out.2.2.2 (i := i) hiq
                  replace hqA : qA = some ⟨gb, 0, none⟩ := hqA
                  subst hqA
                  obtain ⟨w1, w2, w3, w4, w5⟩ := wrapsB m i (by omega) (by have := HN.out; omega)
                  by_cases h1 : i < sn
                  · have hd3 : decide ((i : Int) < sn) = true := decide_eq_true (by omega)
                    have hd4 : ((i : Int) == (sn : Int)) = false := by simp; omega
                    obtain ⟨gb2, hsA, hcx2⟩ := MarkBytes HS.out.1 (i := i) h1
                    replace hsA : sA = some ⟨gb2, 0, none⟩ := hsA
                    subst hsA
                    go_wp2_with fail
                    go_roundw
                    case rel => exact ⟨i + 1, by push_cast; rfl, hiq, by first | rfl | trivial⟩
                    case measure =>
                      simp only [intOf]
                      omega
                  · have hd3 : decide ((i : Int) < sn) = false := decide_eq_false (by omega)
                    by_cases h2 : i = sn
                    · have hd4 : ((i : Int) == (sn : Int)) = true := by simp; omega
                      obtain ⟨gb2, hoA, hcx2⟩ := MarkBytes HS.out.2.2.1 (i := i) (show i < on by have := HN.out; omega)
                      replace hoA : oA = some ⟨gb2, 0, none⟩ := hoA
                      subst hoA
                      have hion : i < on := by have := HN.out; omega
                      have hd5 : decide ((i : Int) < on) = true := decide_eq_true (by omega)
                      have HH := Lib.hid h2
                      clear h2
                      go_wp2_with fail
                      go_roundw
                      case rel => exact ⟨i + 1, by push_cast; rfl, hiq, by first | rfl | trivial⟩
                      case measure =>
                        simp only [intOf]
                        omega
                    · have hd4 : ((i : Int) == (sn : Int)) = false := by simp; omega
                      go_wp2_with fail
                      go_roundw
                      case rel => exact ⟨i + 1, by push_cast; rfl, hiq, by first | rfl | trivial⟩
                      case measure =>
                        simp only [intOf]
                        omega
                · have hd2 : decide ((i : Int) < qn) = false := decide_eq_false (by omega)
                  go_wp2_with fail
                  go_roundw
                  case rel => exact ⟨m + 1, by push_cast; rfl, hml, by first | rfl | trivial⟩
                  case measure =>
                    simp only [intOf]
                    omega
            · have hd : decide ((m : Int) < mn) = false := decide_eq_false (by omega)
              go_wp2_with fail
              go_ret
              exact ⟨rfl, HX.out.kp⟩
end Go.Proofs.YtpncbggjngamgaaGreatDoor
