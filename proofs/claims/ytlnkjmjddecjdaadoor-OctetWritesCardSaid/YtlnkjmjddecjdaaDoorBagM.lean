/-
  append told sharply: onto the room behind a row, or into a new block; slices that share a block keep what they say.
  Bag.apartBytes: rows of bytes that are each their own stand apart.
  Bag.apartBytes: how the rows grow, one by one.
-/
import Derived.Test.YtlnkjmjddecjdaaDoorOwnW
import Derived.Laws.AppendOwn
import Derived.Test.YtlnkjmjddecjdaaDoorBits
import Derived.Test.YtlnkjmjddecjdaaDoorBase2
import Derived.Test.YtlnkjmjddecjdaaDoorRefA
namespace Go.Proofs.YtlnkjmjddecjdaaDoor
set_option linter.unusedVariables false
open Go.RowKit Go.ChangeShapes Go.WideShapes

/-- How a row grew. -/
def Grew (w w' : World) (v v' : Value) (n m : Nat) : Prop :=
  (∃ g c, v = .slice (some ⟨g, 0, none⟩) n c ∧ v' = .slice (some ⟨g, 0, none⟩) (n + m) c ∧ w.grownBy w' (some g)) ∨ (v'.ownBlock = some w.heap.size ∧ w.grownBy w' none)
theorem run_app2 {P : Program} {w : World} {t e : TypeId} {size bytes : Nat} (E : El P t e size bytes) (ty : TypeId) {base : Nat} {v : Value} {n : Nat} {xs : List Value} (hown : w.ownsRow base e size v n xs)
    {B : Nat} {A : Option Addr} {m : Nat} (c : Nat) {news : List Value} (hr : Reads w B size A m news) (h1 : ∀ u ∈ news, u.oneCell' = true)
    (h63 : n + m ≤ maxLen) (hbytes : (n + m) * bytes ≤ 140737488355328) (hbase : base ≤ w.heap.size) (hm : 0 < m) :
    ∃ v' w', (Builtin.append_ #[t, t] ty #[v, .slice A m c]).run P w = .ok v' w' ∧ w'.ownsRow base e size v' (n + m) (xs ++ news) ∧ Grew w w' v v' n m := by
  obtain ⟨i, z, hi, hz, hsize, hby, hzs⟩ := E.info
  obtain ⟨a, rfl, _, hnews⟩ := hr.2 hm
  have hl := hr.1
  have hsz := E.pos
  have ht := E.ht
  subst hsize
  subst hby
  have hsmall : n + m ≤ 9223372036854775807 := by simp only [maxLen] at h63; omega
  have hlen : (xs ++ news).length = (n + m) * i.size := by rw [List.length_append, hown.1, hl, Nat.add_mul]
  have grown : ∀ (old : Nat), old < n + m →
      (w.drew.alloc (.cells (xs.toArray ++ news.toArray ++ Builtin.zeroCells z.cells (grownCap w (n + m) old e - (n + m))) e)).ownsRow base e i.size
        (.slice (some ⟨w.heap.size, 0, none⟩) (n + m) (grownCap w (n + m) old e)) (n + m) (xs ++ news) ∧
      w.grownBy (w.drew.alloc (.cells (xs.toArray ++ news.toArray ++ Builtin.zeroCells z.cells (grownCap w (n + m) old e - (n + m))) e)) none := by
    intro old ho
    have hge := grownCap_ge w (n + m) old e
    have hcm : grownCap w (n + m) old e ≤ maxLen := grownCap_le_maxLen w (n + m) old e h63
    refine ⟨⟨hlen, .inr ⟨w.heap.size, _, _, rfl, hbase, heap_alloc_new w.drew _, hge, hcm, ?_, ?_⟩⟩, ⟨rfl, rfl, rfl, by simp, fun k hk _ => Below.heap_alloc w.drew _ k hk⟩⟩
    · simp only [Array.size_append, List.size_toArray, size_zeroCells, hzs, hown.1, hl, ← Nat.add_mul]
      congr 1
      omega
    · simp only [Array.toList_append, List.append_assoc]
      rw [← List.append_assoc, ← hlen]
      exact List.take_left
  rcases hown.2 with ⟨rfl, rfl⟩ | ⟨g, cap, cur, rfl, hbg, hg, hnc, hcm, hcs, htake⟩
  · have hx : xs = [] := List.eq_nil_of_length_eq_zero (by simpa using hown.1)
    subst hx
    have hrun := Go.run_append_nil (P := P) w t ty e i z ht hi hz a m c news hl hnews (by omega) (by omega) (by have hb := hbytes; simp only [Nat.zero_add] at hb; omega)
    have hgr := grown 0 (by omega)
    simp only [Nat.zero_add, List.nil_append, Array.empty_append] at hgr ⊢
    exact ⟨_, _, hrun, hgr.1, .inr ⟨rfl, hgr.2⟩⟩
  · by_cases hroom : n + m ≤ cap
    · have hfit : n * i.size + news.length ≤ cur.size := by rw [hl, hcs, ← Nat.add_mul]; exact Nat.mul_le_mul_right _ hroom
      have hrun := run_append_room (P := P) w t ty e i ht hi g n cap cur hg a m c news hl hnews h1 hroom hfit
      refine ⟨_, _, hrun, ⟨hlen, .inr ⟨g, cap, _, rfl, hbg, setRow_heap w g cur _ e _ hg, hroom, hcm, ?_, ?_⟩⟩, .inl ⟨g, cap, rfl, rfl, ⟨rfl, rfl, rfl, by simp, fun k _ hk => setRow_other w g k _ (fun e => hk (by simp [e]))⟩⟩⟩
      · simp only [List.size_toArray, List.length_append, List.length_take, List.length_drop, Array.length_toList]
        omega
      · rw [htake, ← hlen]
        exact List.take_left
    · have holds : ∀ j u, xs[j]? = some u → w.cell? ((⟨g, 0, none⟩ : Addr).add j) = some u := hown.cells (g := g) rfl
      have hrun := run_append_grow (P := P) w t ty e i z ht hi hz ⟨g, 0, none⟩ n cap xs hown.1 holds a m c news hl hnews (by omega) (by omega) (growslice_fits (by omega) hbytes)
      have hgr := grown cap (by omega)
      exact ⟨_, _, hrun, hgr.1, .inr ⟨rfl, hgr.2⟩⟩
/-- 's = append(s, xs...)' of at least one, told sharply. -/
theorem wpList_app2 {P : Program} {ops : Array Oper} {rest : List Oper} {o : Oper} {a : Act} {Q : Exit → Act → World → Prop} {w : World} {t e : TypeId} {size bytes : Nat} (E : El P t e size bytes)
    (hgd : o.guard = none) (s x : Operand) (ho : o.op = .call { callee := .builtin .append, args := #[s, x], argTypes := #[t, t] })
    {base : Nat} {v : Value} {n : Nat} {xs : List Value} (hown : w.ownsRow base e size v n xs) (hs : a.eval s = v)
    {B : Nat} {A : Option Addr} {m c : Nat} {news : List Value} (hr : Reads w B size A m news) (hx : a.eval x = .slice A m c) (h1 : ∀ u ∈ news, u.oneCell' = true)
    (h63 : n + m ≤ maxLen) (hbytes : (n + m) * bytes ≤ 140737488355328) (hbase : base ≤ w.heap.size) (hm : 0 < m)
    (h : ∀ v' w', w'.ownsRow base e size v' (n + m) (xs ++ news) → Grew w w' v v' n m → wpList P ops Q rest (a.put o.dst v') w') :
    wpList P ops Q (o :: rest) a w := by
  obtain ⟨v', w', hrun, h2, h3⟩ := run_app2 E o.type hown c hr h1 h63 hbytes hbase hm
  refine wpList_plain hgd fun K hK => ?_
  unfold Oper.wp execOp
  simp only [ho, resolve, invoke, builtin, Sem.run_bind, Sem.run_pure, Result.andThen_ok, List.map_toArray, List.map_cons, List.map_nil, hs, hx, hrun]
  exact hK _ _ (h v' w' h2 h3)
theorem Grew.by {w w' : World} {v v' : Value} {n m : Nat} (h : Grew w w' v v' n m) : w.grownBy w' v.ownBlock := by
  rcases h with ⟨g, c, rfl, rfl, h⟩ | ⟨_, h⟩
  · exact h
  · exact ⟨h.os, h.tape, h.output, h.size, fun k hk _ => h.block k hk (by simp)⟩
theorem Grew.blk {w w' : World} {v v' : Value} {n m : Nat} (h : Grew w w' v v' n m) : v'.ownBlock = v.ownBlock ∨ v'.ownBlock = some w.heap.size := by
  rcases h with ⟨g, c, rfl, rfl, h⟩ | ⟨h, _⟩
  · exact .inl rfl
  · exact .inr h
/-- A slice of the same block that ends no later keeps what it says. -/
theorem Grew.keeps {w w' : World} {v v' u : Value} {n m k base b' size : Nat} {e : TypeId} {xs ys news : List Value} (h : Grew w w' v v' n m) (hv : w.ownsRow base e size v n xs) (hv' : w'.ownsRow base e size v' (n + m) (xs ++ news))
    (hu : w.ownsRow b' e size u k ys) (hk : k ≤ n) : w'.ownsRow b' e size u k ys := by
  rcases h with ⟨g, c, rfl, rfl, hg⟩ | ⟨_, hg⟩
  · rcases hu.2 with ⟨rfl, rfl⟩ | ⟨g2, cap2, cur2, rfl, hb2, hc2, hn2, hm2, hs2, ht2⟩
    · exact ⟨hu.1, .inl ⟨rfl, rfl⟩⟩
    · by_cases hgg : g2 = g
      · subst hgg
        rcases hv.2 with ⟨h0, _⟩ | ⟨g3, cap3, cur3, e3, _, hc3, _, _, hs3, ht3⟩
        · cases h0
        · injection e3 with e31 _ e32
          injection e31 with e31
          injection e31 with e31
          subst e31 e32
          rcases hv'.2 with ⟨h0, _⟩ | ⟨g4, cap4, cur4, e4, _, hc4, _, _, hs4, ht4⟩
          · cases h0
          · injection e4 with e41 _ e42
            injection e41 with e41
            injection e41 with e41
            subst e41 e42
            have hcc : cur2 = cur3 := by
              have := hc2.symm.trans hc3
              injection this with this
              injection this
            subst hcc
            have hcap : cap2 * size = c * size := by rw [← hs2, ← hs3]
            refine ⟨hu.1, .inr ⟨g2, cap2, cur4, rfl, hb2, hc4, hn2, hm2, by rw [hs4, hcap], ?_⟩⟩
            have hle : k * size ≤ n * size := Nat.mul_le_mul_right _ hk
            have hl : xs.length = n * size := hv.1
            have e1 : cur4.toList.take (n * size) = xs := by
              have h5 := congrArg (List.take (n * size)) ht4
              rw [List.take_take, Nat.min_eq_left (Nat.mul_le_mul_right _ (by omega)), ← hl, List.take_left] at h5
              rwa [hl] at h5
            have e2 := congrArg (List.take (k * size)) (e1.trans ht3.symm)
            rw [List.take_take, List.take_take, Nat.min_eq_left hle] at e2
            exact e2.trans ht2
      · exact hu.kept hg (.inr (by simp [Value.ownBlock]; exact hgg))
  · exact hu.kept hg (by cases hq : u.ownBlock <;> simp)
end Go.Proofs.YtlnkjmjddecjdaaDoor
namespace Go.Proofs.YtlnkjmjddecjdaaDoor
set_option linter.unusedVariables false
open Go.RowKit Go.ChangeShapes Go.WideShapes

/-- A slice. -/
structure Sl where
  A : Option Addr
  n : Nat
  c : Nat
@[reducible] def Sl.v (s : Sl) : Value := .slice s.A s.n s.c
def Sl.cells (s : Sl) : List Value := [s.v]
def slv (L : List Sl) : List Value := L.map Sl.v
theorem slv_len (L : List Sl) : (slv L).length = L.length := by simp [slv]
theorem slv_get {L : List Sl} {k : Nat} {s : Sl} (h : L[k]? = some s) : (slv L)[k]? = some s.v := by simp [slv, h]
theorem slv_one (L : List Sl) : ∀ u ∈ slv L, u.oneCell' = true := by
  intro u hu
  simp only [slv, List.mem_map] at hu
  obtain ⟨s, _, rfl⟩ := hu
  rfl
/-- The mark of place j of row k. -/
def mkB (k j : Nat) : Int := (31 * (k : Int) + 7 * (j : Int) + 3) % 256
def mkL (k n : Nat) : List Int := (List.range n).map (mkB k)
theorem mkL_len (k n : Nat) : (mkL k n).length = n := by simp [mkL]
theorem mkL_snoc (k n : Nat) : mkL k (n + 1) = mkL k n ++ [mkB k n] := by simp [mkL, List.range_succ]
theorem mkL_at {k n j : Nat} (h : j < n) : (mkL k n)[j]? = some (mkB k j) := by simp [mkL, h]
/-- Its bytes are its own. -/
def Has (W : World) (base : Nat) (s : Sl) (xs : List Int) : Prop := W.ownsRow base 5 1 s.v s.n (u8s xs)
theorem Has.len {W : World} {base : Nat} {s : Sl} {xs : List Int} (h : Has W base s xs) : xs.length = s.n := by
  have := h.1
  rw [u8s_length] at this
  omega
theorem Has.kept {R : Nat → Prop} {W W' : World} {base : Nat} {s : Sl} {xs : List Int} (h : Has W base s xs) (k : Kept R W W') (hn : ∀ i, s.v.ownBlock = some i → ¬ R i) : Has W' base s xs := own_kept h k hn
/-- Rows that are each their own, marked up to a place. -/
structure Rows8 (W : World) (base : Nat) (L : List Sl) (X : Nat → List Int) : Prop where
  has : ∀ k s, L[k]? = some s → Has W base s (X k)
  sep : ∀ (j k : Nat) (s t : Sl) (i : Nat), L[j]? = some s → L[k]? = some t → j ≠ k → s.v.ownBlock = some i → t.v.ownBlock ≠ some i
  few : ∀ (k : Nat) (s : Sl), L[k]? = some s → s.n ≤ 1099511627776
/-- The bag, and its list of rows. -/
structure BagB (W : World) (base g : Nat) (C : Array Value) (G : Sl) (L : List Sl) : Prop where
  blk : Blk W g 67 C
  c0 : C[0]? = some G.v
  row : W.ownsRow base 28 1 G.v G.n (slv L)
  len : L.length = G.n
  few : G.n ≤ 300
theorem BagB.cell {W : World} {base g : Nat} {C : Array Value} {G : Sl} {L : List Sl} (h : BagB W base g C G L) : W.cell? ⟨g, 0, none⟩ = some G.v := by rw [h.blk.cell]; exact h.c0
theorem own_cell {W : World} {base n : Nat} {e : TypeId} {v : Value} {xs : List Value} (h : W.ownsRow base e 1 v n xs) {k : Nat} {u : Value} (hu : xs[k]? = some u) : ∃ gg c, v = .slice (some ⟨gg, 0, none⟩) n c ∧ W.cell? ⟨gg, k, none⟩ = some u ∧ W.frozen? ⟨gg, k, none⟩ = false ∧ base ≤ gg := by
  have hk : k < xs.length := (List.getElem?_eq_some_iff.1 hu).1
  rcases h.2 with ⟨_, h0⟩ | ⟨gg, cap, cur, hv, hb, hg, _⟩
  · have := h.1; omega
  · refine ⟨gg, cap, hv, ?_, Blk.frozen (show Blk W gg e cur from hg) k, hb⟩
    have := h.cells (g := gg) (by rw [hv]; rfl) k u hu
    rwa [add_none, Nat.zero_add] at this
theorem own_set {W : World} {base n : Nat} {e : TypeId} {v : Value} {xs : List Value} {gg c : Nat} (h : W.ownsRow base e 1 v n xs) (hv : v = .slice (some ⟨gg, 0, none⟩) n c) (i : Nat) (u : Value) : (W.setCell ⟨gg, i, none⟩ u).ownsRow base e 1 v n (xs.set i u) := by
  refine ⟨by rw [List.length_set]; exact h.1, ?_⟩
  rcases h.2 with ⟨h0, _⟩ | ⟨g2, cap, cur, e2, hb, hg, hnc, hm, hs, ht⟩
  · rw [hv] at h0; cases h0
  · rw [hv] at e2
    injection e2 with e21 _ e22
    injection e21 with e21
    injection e21 with e21
    subst e21 e22
    refine .inr ⟨gg, c, cur.setIfInBounds i u, hv, hb, Blk.set_ (show Blk W gg e cur from hg) i u, hnc, hm, by simpa using hs, ?_⟩
    rw [Array.toList_setIfInBounds, List.take_set, ht]
theorem Has.set {W : World} {base : Nat} {s : Sl} {Y : List Int} {gg : Nat} (h : Has W base s Y) (hA : s.A = some ⟨gg, 0, none⟩) (i : Nat) (x : Int) : Has (W.setCell ⟨gg, i, none⟩ (.int .u8 x)) base s (Y.set i x) := by
  have := own_set (gg := gg) (c := s.c) h (by rw [show s.v = .slice s.A s.n s.c from rfl, hA]) i (.int .u8 x)
  rw [u8s_set] at this
  exact this
theorem Has.cell {W : World} {base : Nat} {s : Sl} {Y : List Int} (h : Has W base s Y) {k : Nat} (hk : k < s.n) : ∃ gg x, s.A = some ⟨gg, 0, none⟩ ∧ Y[k]? = some x ∧ W.cell? ⟨gg, k, none⟩ = some (.int .u8 x) ∧ W.frozen? ⟨gg, k, none⟩ = false ∧ base ≤ gg := by
  have hl := h.len
  obtain ⟨gg, c, hv, hc, hf, hb⟩ := own_cell h (u8s_get_of (List.getElem?_eq_getElem (show k < Y.length by omega)))
  injection hv with hv _ _
  exact ⟨gg, _, hv, List.getElem?_eq_getElem (by omega), hc, hf, hb⟩
theorem mk_all {Y : List Int} {k n : Nat} (hl : Y.length = n) (h : ∀ j, j < n → Y[j]? = some (mkB k j)) : Y = mkL k n := by
  apply List.ext_getElem?
  intro j
  by_cases hj : j < n
  · rw [h j hj, mkL_at hj]
  · rw [List.getElem?_eq_none (by omega), List.getElem?_eq_none (by rw [mkL_len]; omega)]
theorem u8_wrap (x : Int) : IntKind.u8.wrap x = x % 256 := by simp [IntKind.wrap, IntKind.bits, IntKind.signed]
/-- Another row's block was written. -/
theorem Rows8.put {W W' : World} {base : Nat} {L : List Sl} {X : Nat → List Int} (h : Rows8 W base L X) {k : Nat} {s : Sl} (hs : L[k]? = some s) (hk : Kept (fun b => s.v.ownBlock = some b) W W') {Y : List Int} (hY : Has W' base s Y) :
    Rows8 W' base L (fun j => if j = k then Y else X j) := by
  refine ⟨fun j t ht => ?_, h.sep, h.few⟩
  by_cases hj : j = k
  · subst hj
    rw [hs] at ht
    injection ht with ht
    subst ht
    rw [if_pos rfl]
    exact hY
  · rw [if_neg hj]
    exact (h.has j t ht).kept hk fun i hi hr => h.sep j k t s i ht hs hj hi hr
theorem bag_kept {R : Nat → Prop} {W W' : World} {base g : Nat} {C : Array Value} {G : Sl} {L : List Sl} (h : BagB W base g C G L) (k : Kept R W W') (hg : ¬ R g) (hr : ∀ i, G.v.ownBlock = some i → ¬ R i) : BagB W' base g C G L :=
  ⟨h.blk.kept k hg, h.c0, own_kept h.row k hr, h.len, h.few⟩
/-- A row of bytes is neither the bag nor its list. -/
theorem bag_put {W W' : World} {base g : Nat} {C : Array Value} {G : Sl} {L : List Sl} {s : Sl} {X : List Int} (h : BagB W base g C G L) (hs : Has W base s X) (hk : Kept (fun b => s.v.ownBlock = some b) W W') : BagB W' base g C G L := by
  refine bag_kept h hk (fun hR => own_blk_ne hs h.blk (by decide) hR) (fun i hi hR => ?_)
  rcases hs.2 with ⟨h0, _⟩ | ⟨g2, cap, cur, e2, _, hg2, _⟩
  · rw [h0] at hR; simp [Value.ownBlock] at hR
  · have : g2 = i := by rw [e2] at hR; simpa [Value.ownBlock] using hR
    subst this
    exact own_blk_ne h.row (show Blk W g2 5 cur from hg2) (by decide) hi
/-- What the first loops leave. -/
structure Ap1 (W0 W : World) (base g : Nat) (C : Array Value) (G : Sl) (L : List Sl) (X : Nat → List Int) (n : Nat) : Prop where
  rows : Rows8 W base L X
  done : ∀ k s, k < n → L[k]? = some s → X k = mkL k s.n
  bag : BagB W base g C G L
  bl : Below base W0 W
end Go.Proofs.YtlnkjmjddecjdaaDoor
namespace Go.Proofs.YtlnkjmjddecjdaaDoor
set_option linter.unusedVariables false
open Go.RowKit Go.ChangeShapes Go.WideShapes

/-- Rows of unlike elements have unlike blocks. -/
theorem own_ne {W : World} {b b' sz sz' n n' : Nat} {e e' : TypeId} {v v' : Value} {xs xs' : List Value} (h : W.ownsRow b e sz v n xs) (h' : W.ownsRow b' e' sz' v' n' xs') (hne : e ≠ e') : ∀ i, v.ownBlock = some i → v'.ownBlock ≠ some i := by
  intro i hi
  rcases h.2 with ⟨h0, _⟩ | ⟨g, cap, cur, hv, _, hg, _⟩
  · rw [h0] at hi; simp [Value.ownBlock] at hi
  · have : g = i := by rw [hv] at hi; simpa [Value.ownBlock] using hi
    subst this
    exact own_blk_ne h' (show Blk W g e cur from hg) hne.symm
/-- Within one row's turn. -/
structure In2 (Wn W : World) (base S0 n : Nat) (s oS : Sl) (O : List Sl) (i : Nat) (l : Sl) (O' : List Sl) (oS' : Sl) (d : Bool) : Prop where
  lhas : Has W base l (mkL n i)
  ln : l.n = i
  lb : l.v.ownBlock = s.v.ownBlock ∨ ∃ b, l.v.ownBlock = some b ∧ Wn.heap.size ≤ b
  shas : Has W base s (mkL n s.n)
  sn : s.n ≤ i
  orow : W.ownsRow S0 28 1 oS'.v oS'.n (slv O')
  ob : oS'.v.ownBlock = oS.v.ownBlock ∨ ∃ b, oS'.v.ownBlock = some b ∧ Wn.heap.size ≤ b
  oc : (d = false ∧ O' = O ∧ oS' = oS) ∨ (d = true ∧ s.n + 1 ≤ i ∧ ∃ o, O' = O ++ [o] ∧ o.n = s.n + 1 ∧ Has W base o (mkL n (s.n + 1)) ∧ (o.v.ownBlock = s.v.ownBlock ∨ ∃ b, o.v.ownBlock = some b ∧ Wn.heap.size ≤ b))
  k : Kept (fun b => s.v.ownBlock = some b ∨ oS.v.ownBlock = some b) Wn W
theorem Has.later {W W' : World} {base : Nat} {s : Sl} {xs : List Int} (h : Has W base s xs) (hb : Below W.heap.size W W') : Has W' base s xs := h.kept (Kept.of_new hb (fun _ => False)) (fun _ _ h => h)
theorem In2.later {Wn W W' : World} {base S0 n : Nat} {s oS : Sl} {O : List Sl} {i : Nat} {l : Sl} {O' : List Sl} {oS' : Sl} {d : Bool} (h : In2 Wn W base S0 n s oS O i l O' oS' d) (hb : Below W.heap.size W W') : In2 Wn W' base S0 n s oS O i l O' oS' d := by
  refine ⟨h.lhas.later hb, h.ln, h.lb, h.shas.later hb, h.sn, own_kept h.orow (Kept.of_new hb (fun _ => False)) (fun _ _ h => h), h.ob, ?_, h.k.trans (Kept.of_new hb (fun b => s.v.ownBlock = some b ∨ oS.v.ownBlock = some b)) (fun _ _ h => h)⟩
  rcases h.oc with q | ⟨q1, q2, o, q3, q4, q5, q6⟩
  · exact .inl q
  · exact .inr ⟨q1, q2, o, q3, q4, q5.later hb, q6⟩
theorem sl_of {W : World} {base n : Nat} {e : TypeId} {v : Value} {xs : List Value} (h : W.ownsRow base e 1 v n xs) : ∃ l : Sl, v = l.v ∧ l.n = n := by
  obtain ⟨A, c, hv, _⟩ := own_shape h
  exact ⟨⟨A, n, c⟩, hv, rfl⟩
theorem In2.app {Wn W W' : World} {base S0 n : Nat} {s oS : Sl} {O : List Sl} {i : Nat} {l : Sl} {O' : List Sl} {oS' : Sl} {d : Bool} (h : In2 Wn W base S0 n s oS O i l O' oS' d) (hn : Wn.heap.size ≤ W.heap.size) {v' : Value} (hg : Grew W W' l.v v' i 1)
    (ho : W'.ownsRow base 5 1 v' (i + 1) (u8s (mkL n i) ++ [.int .u8 (mkB n i)])) : ∃ l', v' = l'.v ∧ In2 Wn W' base S0 n s oS O (i + 1) l' O' oS' d := by
  obtain ⟨l', rfl, hl'⟩ := sl_of ho
  have hl : W.ownsRow base 5 1 l.v i (u8s (mkL n i)) := by have := h.lhas; unfold Has at this; rwa [h.ln] at this
  have kk : Kept (fun b => l.v.ownBlock = some b) W W' := Kept.of_grown hg.by
  have hlb : l'.v.ownBlock = s.v.ownBlock ∨ ∃ b, l'.v.ownBlock = some b ∧ Wn.heap.size ≤ b := by
    rcases hg.blk with q | q
    · rw [q]; exact h.lb
    · exact .inr ⟨_, q, hn⟩
  refine ⟨l', rfl, ?_, hl', hlb, ?_, by have := h.sn; omega, ?_, h.ob, ?_, ?_⟩
  · unfold Has
    rw [hl', mkL_snoc, u8s_append]
    exact ho
  · exact hg.keeps hl ho h.shas h.sn
  · exact own_kept h.orow kk (fun i hi hr => own_ne h.orow hl (by decide) i hi hr)
  · rcases h.oc with q | ⟨q1, q2, o, q3, q4, q5, q6⟩
    · exact .inl q
    · exact .inr ⟨q1, by omega, o, q3, q4, hg.keeps hl ho q5 (by omega), q6⟩
  · refine h.k.trans kk (fun i hi hr => ?_)
    rcases h.lb with q | ⟨b, q, hb⟩
    · left; rw [← q]; exact hr
    · rw [q] at hr
      injection hr with hr
      omega
theorem In2.one {Wn W W' : World} {base S0 n : Nat} {s oS : Sl} {O : List Sl} {i : Nat} {l : Sl} {O' : List Sl} {oS' : Sl} (h : In2 Wn W base S0 n s oS O i l O' oS' false) (hn : Wn.heap.size ≤ W.heap.size) (hi : i = s.n + 1) {v' : Value} (hg : Grew W W' oS'.v v' oS'.n 1)
    (ho : W'.ownsRow S0 28 1 v' (oS'.n + 1) (slv O' ++ [l.v])) : ∃ oS2, v' = oS2.v ∧ oS2.n = oS'.n + 1 ∧ In2 Wn W' base S0 n s oS O i l (O' ++ [l]) oS2 true := by
  obtain ⟨o2, rfl, ho2⟩ := sl_of ho
  have kk : Kept (fun b => oS'.v.ownBlock = some b) W W' := Kept.of_grown hg.by
  have hlk : Has W' base l (mkL n i) := h.lhas.kept kk (fun i hi hr => own_ne (show W.ownsRow base 5 1 l.v l.n (u8s (mkL n _)) from h.lhas) h.orow (by decide) i hi hr)
  refine ⟨o2, rfl, ho2, hlk, h.ln, h.lb, h.shas.kept kk (fun i hi hr => own_ne (show W.ownsRow base 5 1 s.v s.n (u8s (mkL n _)) from h.shas) h.orow (by decide) i hi hr), h.sn, ?_, ?_, ?_, ?_⟩
  · rw [ho2, show slv (O' ++ [l]) = slv O' ++ [l.v] by simp [slv]]
    exact ho
  · rcases hg.blk with q | q
    · rw [q]; exact h.ob
    · exact .inr ⟨_, q, hn⟩
  · rcases h.oc with ⟨_, q2, _⟩ | ⟨q1, _⟩
    · refine .inr ⟨rfl, by omega, l, by rw [q2], by rw [h.ln, hi], by rw [← hi]; exact hlk, h.lb⟩
    · cases q1
  · refine h.k.trans kk (fun i hi hr => ?_)
    rcases h.ob with q | ⟨b, q, hb⟩
    · right; rw [← q]; exact hr
    · rw [q] at hr
      injection hr with hr
      omega
/-- What the second loops leave. -/
structure Ap2 (W0 W : World) (base g : Nat) (C : Array Value) (G : Sl) (L O M : List Sl) (oS mS : Sl) (n : Nat) : Prop where
  rows : ∀ (k : Nat) (s : Sl), L[k]? = some s → Has W base s (mkL k s.n)
  sep : ∀ (j k : Nat) (s t : Sl) (i : Nat), L[j]? = some s → L[k]? = some t → j ≠ k → s.v.ownBlock = some i → t.v.ownBlock ≠ some i
  few : ∀ (k : Nat) (s : Sl), L[k]? = some s → s.n ≤ 1099511627776
  bag : BagB W base g C G L
  gl : ∀ i, G.v.ownBlock = some i → i < W0.heap.size
  bl : Below base W0 W
  orow : W.ownsRow W0.heap.size 28 1 oS.v oS.n (slv O)
  on : oS.n = n
  mrow : W.ownsRow W0.heap.size 28 1 mS.v mS.n (slv M)
  mn : mS.n = n
  om : ∀ i, oS.v.ownBlock = some i → mS.v.ownBlock ≠ some i
  oh : ∀ (k : Nat) (o : Sl), O[k]? = some o → (∀ s : Sl, L[k]? = some s → o.n = s.n + 1) ∧ Has W base o (mkL k o.n) ∧ ∀ (j : Nat) (s : Sl) (i : Nat), j ≠ k → L[j]? = some s → o.v.ownBlock = some i → s.v.ownBlock ≠ some i
  mh : ∀ (k : Nat) (o : Sl), M[k]? = some o → (∀ s : Sl, L[k]? = some s → o.n = s.n + 70) ∧ Has W base o (mkL k o.n) ∧ ∀ (j : Nat) (s : Sl) (i : Nat), j ≠ k → L[j]? = some s → o.v.ownBlock = some i → s.v.ownBlock ≠ some i
theorem Ap2.ol {W0 W : World} {base g : Nat} {C : Array Value} {G : Sl} {L O M : List Sl} {oS mS : Sl} {n : Nat} (h : Ap2 W0 W base g C G L O M oS mS n) : O.length = n := by have := h.orow.1; rw [slv_len, h.on] at this; omega
theorem Ap2.ml {W0 W : World} {base g : Nat} {C : Array Value} {G : Sl} {L O M : List Sl} {oS mS : Sl} {n : Nat} (h : Ap2 W0 W base g C G L O M oS mS n) : M.length = n := by have := h.mrow.1; rw [slv_len, h.mn] at this; omega
theorem Ap2.start {W0 W : World} {base g : Nat} {C : Array Value} {G : Sl} {L O M : List Sl} {oS mS : Sl} {n : Nat} (h : Ap2 W0 W base g C G L O M oS mS n) {s : Sl} (hs : L[n]? = some s) : In2 W W base W0.heap.size n s oS O s.n s O oS false :=
  ⟨h.rows n s hs, rfl, .inl rfl, h.rows n s hs, Nat.le_refl _, h.orow, .inl rfl, .inl ⟨rfl, rfl, rfl⟩, Kept.refl _ _⟩
theorem get_snoc {α : Type} {l : List α} {a x : α} {k : Nat} (h : (l ++ [a])[k]? = some x) : (k < l.length ∧ l[k]? = some x) ∨ (k = l.length ∧ x = a) := by
  by_cases hk : k < l.length
  · rw [List.getElem?_append_left hk] at h
    exact .inl ⟨hk, h⟩
  · rw [List.getElem?_append_right (by omega)] at h
    have h2 := (List.getElem?_eq_some_iff.1 h).1
    simp at h2
    have : k - l.length = 0 := by omega
    rw [this] at h
    simp at h
    exact .inr ⟨by omega, h.symm⟩
/-- The bag stands while a row of its takes its turn. -/
theorem Ap2.bagIn {W0 Wn W : World} {base g : Nat} {C : Array Value} {G : Sl} {L O M : List Sl} {oS mS : Sl} {n : Nat} (h : Ap2 W0 Wn base g C G L O M oS mS n) {s : Sl} (hs : L[n]? = some s) (hk : Kept (fun b => s.v.ownBlock = some b ∨ oS.v.ownBlock = some b) Wn W) : BagB W base g C G L := by
  refine bag_kept h.bag hk (fun hR => ?_) (fun i hi hR => ?_)
  · rcases hR with hR | hR
    · exact own_blk_ne (show Wn.ownsRow base 5 1 s.v s.n _ from h.rows n s hs) h.bag.blk (by decide) hR
    · exact own_blk_ne h.orow h.bag.blk (by decide) hR
  · rcases hR with hR | hR
    · exact own_ne h.bag.row (show Wn.ownsRow base 5 1 s.v s.n _ from h.rows n s hs) (by decide) i hi hR
    · have h1 := h.gl i hi
      have h2 := (own_ge h.orow hR).1
      omega
theorem Ap2.moreIn {W0 Wn W : World} {base g : Nat} {C : Array Value} {G : Sl} {L O M : List Sl} {oS mS : Sl} {n : Nat} (h : Ap2 W0 Wn base g C G L O M oS mS n) {s : Sl} (hs : L[n]? = some s) (hk : Kept (fun b => s.v.ownBlock = some b ∨ oS.v.ownBlock = some b) Wn W) : W.ownsRow W0.heap.size 28 1 mS.v mS.n (slv M) :=
  own_kept h.mrow hk fun i hi hR => by
    rcases hR with hR | hR
    · exact own_ne h.mrow (show Wn.ownsRow base 5 1 s.v s.n _ from h.rows n s hs) (by decide) i hi hR
    · exact h.om i hR hi
theorem Ap2.next {W0 Wn W W2 : World} {base g : Nat} {C : Array Value} {G : Sl} {L O M : List Sl} {oS mS : Sl} {n : Nat} (h : Ap2 W0 Wn base g C G L O M oS mS n) {s : Sl} (hs : L[n]? = some s) {l : Sl} {O' : List Sl} {oS' : Sl}
    (q : In2 Wn W base W0.heap.size n s oS O (s.n + 70) l O' oS' true) (hb0 : base ≤ W0.heap.size) {v' : Value} (hg : Grew W W2 mS.v v' mS.n 1) (ho : W2.ownsRow W0.heap.size 28 1 v' (mS.n + 1) (slv M ++ [l.v])) :
    ∃ mS', v' = mS'.v ∧ Ap2 W0 W2 base g C G L O' (M ++ [l]) oS' mS' (n + 1) := by
  obtain ⟨m2, rfl, hm2⟩ := sl_of ho
  have kk : Kept (fun b => mS.v.ownBlock = some b) W W2 := Kept.of_grown hg.by
  have hol := h.ol
  have hml := h.ml
  rcases q.oc with ⟨q1, _⟩ | ⟨_, _, o, hO, hon, hoh, hob⟩
  · cases q1
  -- what has stood since the turn began
  have hmW : W.ownsRow W0.heap.size 28 1 mS.v mS.n (slv M) := own_kept h.mrow q.k fun i hi hR => by
    rcases hR with hR | hR
    · exact own_ne h.mrow (show Wn.ownsRow base 5 1 s.v s.n _ from h.rows n s hs) (by decide) i hi hR
    · exact h.om i hR hi
  have old : ∀ (t : Sl) (xs : List Int), Has Wn base t xs → (∀ i, t.v.ownBlock = some i → s.v.ownBlock ≠ some i) → Has W2 base t xs := fun t xs ht hne => by
    have h1 : Has W base t xs := ht.kept q.k fun i hi hR => by
      rcases hR with hR | hR
      · exact hne i hi hR
      · exact own_ne (show Wn.ownsRow base 5 1 t.v t.n _ from ht) h.orow (by decide) i hi hR
    exact h1.kept kk fun i hi hR => own_ne (show W.ownsRow base 5 1 t.v t.n _ from h1) hmW (by decide) i hi hR
  have new : ∀ (t : Sl) (xs : List Int), Has W base t xs → Has W2 base t xs := fun t xs ht => ht.kept kk fun i hi hR => own_ne (show W.ownsRow base 5 1 t.v t.n _ from ht) hmW (by decide) i hi hR
  have sepN : ∀ (t : Sl), (t.v.ownBlock = s.v.ownBlock ∨ ∃ b, t.v.ownBlock = some b ∧ Wn.heap.size ≤ b) → ∀ (j : Nat) (u : Sl) (i : Nat), j ≠ n → L[j]? = some u → t.v.ownBlock = some i → u.v.ownBlock ≠ some i := fun t ht j u i hj hu hi hui => by
    rcases ht with e | ⟨b, e, hb⟩
    · exact h.sep n j s u i hs hu (Ne.symm hj) (by rw [← e]; exact hi) hui
    · have h1 := (own_ge (show Wn.ownsRow base 5 1 u.v u.n _ from h.rows j u hu) hui).2
      rw [e] at hi
      injection hi with hi
      omega
  have hBag : BagB W2 base g C G L := bag_kept (h.bagIn hs q.k) kk (fun hR => own_blk_ne hmW (h.bagIn hs q.k).blk (by decide) hR) (fun i hi hR => by
    have h1 := h.gl i hi
    have h2 := (own_ge hmW hR).1
    omega)
  have hsz : Wn.heap.size ≤ W.heap.size := q.k.size
  refine ⟨m2, rfl, ⟨fun k t ht => ?_, h.sep, h.few, hBag, h.gl, ?_, ?_, ?_, ?_, ?_, ?_, fun k t ht => ?_, fun k t ht => ?_⟩⟩
  · by_cases hk : k = n
    · subst hk
      rw [hs] at ht
      injection ht with ht
      subst ht
      exact new s _ q.shas
    · exact old t _ (h.rows k t ht) fun i hi => h.sep k n t s i ht hs hk hi
  · have hW : Below base Wn W := q.k.below (fun i hR => by
      rcases hR with hR | hR
      · exact (own_ge (show Wn.ownsRow base 5 1 s.v s.n _ from h.rows n s hs) hR).1
      · exact Nat.le_trans hb0 (own_ge h.orow hR).1) (Nat.le_trans hb0 h.bl.size)
    exact (h.bl.trans hW).trans (kk.below (fun i hR => Nat.le_trans hb0 (own_ge hmW hR).1) (Nat.le_trans hb0 (Nat.le_trans h.bl.size hsz)))
  · exact own_kept q.orow kk fun i hi hR => by
      rcases q.ob with e | ⟨b, e, hb⟩
      · rw [e] at hi
        exact h.om i hi hR
      · rw [e] at hi
        injection hi with hi
        have := (own_ge h.mrow hR).2
        omega
  · have h1 := q.orow.1
    rw [slv_len, hO, List.length_append, hol] at h1
    simp at h1
    omega
  · rw [hm2, show slv (M ++ [l]) = slv M ++ [l.v] by simp [slv]]
    exact ho
  · rw [hm2, h.mn]
  · intro i hi hR
    have hx : oS'.v.ownBlock = some i := hi
    rcases hg.blk with e | e
    · rw [e] at hR
      rcases q.ob with e2 | ⟨b, e2, hb⟩
      · rw [e2] at hx
        exact h.om i hx hR
      · rw [e2] at hx
        injection hx with hx
        have := (own_ge h.mrow hR).2
        omega
    · rw [e] at hR
      injection hR with hR
      have := (own_ge q.orow hx).2
      omega
  · rw [hO] at ht
    rcases get_snoc ht with ⟨hk, ht⟩ | ⟨hk, rfl⟩
    · obtain ⟨g1, g2, g3⟩ := h.oh k t ht
      exact ⟨g1, old t _ g2 fun i hi hsi => g3 n s i (by omega) hs hi hsi, g3⟩
    · rw [hk, hol]
      refine ⟨fun s' hs' => ?_, ?_, fun j u i hj => sepN t hob j u i hj⟩
      · rw [hs] at hs'
        injection hs' with hs'
        rw [hon, hs']
      · rw [hon]
        exact new t _ hoh
  · rcases get_snoc ht with ⟨hk, ht⟩ | ⟨hk, rfl⟩
    · obtain ⟨g1, g2, g3⟩ := h.mh k t ht
      exact ⟨g1, old t _ g2 fun i hi hsi => g3 n s i (by omega) hs hi hsi, g3⟩
    · rw [hk, hml]
      refine ⟨fun s' hs' => ?_, ?_, fun j u i hj => sepN t q.lb j u i hj⟩
      · rw [hs] at hs'
        injection hs' with hs'
        rw [q.ln, hs']
      · rw [q.ln]
        exact new t _ q.lhas
end Go.Proofs.YtlnkjmjddecjdaaDoor
