/-
  Plain words on memory, shared by all contracts of this seat: a slice that reads as a list, a block known whole, a list being filled.
-/
import Derived.Test.YtpncbggjngamgaaProg
import Derived.WalkKit
import Derived.WalkSpells
import Derived.WalkLawsBesides
import Derived.Deep.AppendLies
import Derived.Maps.AppendAt
import Derived.OwnWalk
import Derived.Deep.Draws
import Derived.Deep.QuietTactic
import Derived.BigQuiet
import Derived.Lib.Hide
import Derived.Deep.LoopGhost
import Derived.Deep.DeepMust
import Derived.Laws.Rows
import Derived.Outline
import Derived.OpenShut
namespace Go.Proofs.Ytpncbggjngamgaa
set_option linter.unusedVariables false
open Go.RowKit

theorem block_of_add (a : Addr) (n : Nat) : (a.add n).block = a.block := by unfold Addr.add; split <;> rfl
theorem add_of_add (a : Addr) (i j : Nat) : (a.add i).add j = a.add (i + j) := by
  unfold Addr.add
  by_cases hi : i = 0 <;> by_cases hj : j = 0 <;> simp [hi, hj, Nat.add_assoc]
theorem add_none (b o i : Nat) : (⟨b, o, none⟩ : Addr).add i = ⟨b, o + i, none⟩ := by
  unfold Addr.add
  by_cases hi : i = 0 <;> simp [hi]

/-- The slice '.slice A n _' holds the cells xs, below block B. -/
def Reads (w : World) (B size : Nat) (A : Option Addr) (n : Nat) (xs : List Value) : Prop :=
  xs.length = n * size ∧ (0 < n → ∃ ad, A = some ad ∧ ad.block < B ∧ ∀ j u, xs[j]? = some u → w.cell? (ad.add j) = some u)

/-- Bytes as cells. -/
def u8s (zs : List Int) : List Value := zs.map (Value.int .u8)

section
variable {w w' : World} {B B' size n : Nat} {A : Option Addr} {xs : List Value}
theorem Reads.none_ : Reads w B size A 0 [] := ⟨by simp, fun h => absurd h (by omega)⟩
theorem Reads.at_ {k : Nat} (h : Reads w B 1 A n xs) (hk : k < n) : ∃ ad u, A = some ad ∧ ad.block < B ∧ xs[k]? = some u ∧ w.cell? (ad.add k) = some u := by
  obtain ⟨ad, e, hb, hc⟩ := h.2 (by omega)
  have hl : k < xs.length := by have := h.1; omega
  exact ⟨ad, xs[k], e, hb, List.getElem?_eq_getElem hl, hc k _ (List.getElem?_eq_getElem hl)⟩
theorem Reads.keep (h : Reads w B size A n xs) (hk : ∀ p : Addr, p.block < B → w'.cell? p = w.cell? p) : Reads w' B size A n xs :=
  ⟨h.1, fun hn => by
    obtain ⟨ad, e, hb, hc⟩ := h.2 hn
    exact ⟨ad, e, hb, fun j u hu => (hk _ (by rw [block_of_add]; exact hb)).trans (hc j u hu)⟩⟩
theorem Reads.more (h : Reads w B size A n xs) (hB : B ≤ B') : Reads w B' size A n xs :=
  ⟨h.1, fun hn => by
    obtain ⟨ad, e, hb, hc⟩ := h.2 hn
    exact ⟨ad, e, by omega, hc⟩⟩
theorem Reads.below (h : Reads w B size A n xs) (hb : Below B w w') : Reads w' B size A n xs := h.keep fun _ hp => hb.cell hp
theorem Reads.drewN (h : Reads w B size A n xs) (k : Nat) : Reads (w.drewN k) B size A n xs := h
theorem Reads.later {a b : World} (h : Reads a a.heap.size size A n xs) (hb : Below a.heap.size a b) : Reads b b.heap.size size A n xs := (h.below hb).more hb.size
theorem Reads.alloc (h : Reads w B size A n xs) (hB : B ≤ w.heap.size) (o : Obj) : Reads (w.alloc o) B size A n xs := h.keep fun p hp => World.cell?_alloc_lt w o p (by omega)
theorem Reads.setCell (h : Reads w B size A n xs) {p : Addr} (hB : B ≤ p.block) (u : Value) : Reads (w.setCell p u) B size A n xs :=
  h.keep fun q hq => World.cell?_setCell_other w p q u (fun e => by subst e; omega)
theorem Reads.grown (h : Reads w B size A n xs) {row : Option Nat} (hg : w.grownBy w' row) (hB : B ≤ w.heap.size) (hr : ∀ g, row = some g → B ≤ g) : Reads w' B size A n xs :=
  h.keep fun p hp => World.cell?_of_block (hg.block p.block (by omega) (fun e => by have := hr _ e.symm; omega))
theorem Reads.cut (h : Reads w B size A n xs) {k cap : Nat} (hk : k ≤ n) (hc : n ≤ cap) :
    Reads w B size (if cap = k then A else A.map (·.add (k * size))) (n - k) (xs.drop (k * size)) := by
  refine ⟨by rw [List.length_drop, h.1, Nat.sub_mul], fun hn => ?_⟩
  obtain ⟨ad, rfl, hb, hcell⟩ := h.2 (by omega)
  rw [if_neg (by omega)]
  refine ⟨ad.add (k * size), rfl, by rw [block_of_add]; exact hb, fun j u hu => ?_⟩
  rw [add_of_add]
  exact hcell _ u (by rw [← hu, List.getElem?_drop])
/-- The head of a slice. -/
theorem Reads.pre (h : Reads w B 1 A n xs) {k : Nat} (hk : k ≤ n) : Reads w B 1 A k (xs.take k) := by
  refine ⟨by rw [List.length_take, h.1]; omega, fun hn => ?_⟩
  obtain ⟨ad, rfl, hb, hcell⟩ := h.2 (by omega)
  refine ⟨ad, rfl, hb, fun j u hu => hcell j u ?_⟩
  rw [List.getElem?_take] at hu
  split at hu
  · exact hu
  · cases hu
theorem Reads.of_own {base : Nat} {e : TypeId} {c : Nat} (h : w.ownsRow base e size (.slice A n c) n xs) : Reads w w.heap.size size A n xs := by
  refine ⟨h.1, fun hn => ?_⟩
  obtain ⟨g, cap, hv, _, hlt⟩ := h.form hn
  have hA : A = some ⟨g, 0, none⟩ := by injection hv
  subst hA
  exact ⟨_, rfl, hlt, h.cells (g := g) rfl⟩
end

theorem u8s_length (zs : List Int) : (u8s zs).length = zs.length := by simp [u8s]
theorem u8s_get {zs : List Int} {k : Nat} {u : Value} (h : (u8s zs)[k]? = some u) : ∃ x, zs[k]? = some x ∧ u = .int .u8 x := by
  simp only [u8s, List.getElem?_map, Option.map_eq_some_iff] at h
  obtain ⟨x, hx, rfl⟩ := h
  exact ⟨x, hx, rfl⟩
theorem u8s_get_of {zs : List Int} {k : Nat} {x : Int} (h : zs[k]? = some x) : (u8s zs)[k]? = some (.int .u8 x) := by simp [u8s, h]
theorem u8s_drop (zs : List Int) (k : Nat) : (u8s zs).drop k = u8s (zs.drop k) := by simp [u8s]
theorem u8s_take (zs : List Int) (k : Nat) : (u8s zs).take k = u8s (zs.take k) := by simp [u8s]
theorem u8s_append (a b : List Int) : u8s (a ++ b) = u8s a ++ u8s b := by simp [u8s]
theorem u8s_one {zs : List Int} : ∀ u ∈ u8s zs, u.oneCell' = true := by
  intro u hu
  simp only [u8s, List.mem_map] at hu
  obtain ⟨x, _, rfl⟩ := hu
  rfl

theorem Reads.u8len {w : World} {B n : Nat} {A : Option Addr} {zs : List Int} (h : Reads w B 1 A n (u8s zs)) : zs.length = n := by
  have := h.1; simpa [u8s] using this
theorem Reads.u8at {w : World} {B n k : Nat} {A : Option Addr} {zs : List Int} (h : Reads w B 1 A n (u8s zs)) (hk : k < n) :
    ∃ ad x, A = some ad ∧ ad.block < B ∧ Hid (zs[k]? = some x) ∧ w.cell? (ad.add k) = some (.int .u8 x) := by
  obtain ⟨ad, u, e, hb, hx, hc⟩ := h.at_ hk
  obtain ⟨x, hx', rfl⟩ := u8s_get hx
  exact ⟨ad, x, e, hb, hx', hc⟩
theorem add_zero (a : Addr) : a.add 0 = a := by unfold Addr.add; simp
/-- The first byte, in the walk's own spelling. -/
theorem Reads.u8at0 {w : World} {B n : Nat} {A : Option Addr} {zs : List Int} (h : Reads w B 1 A n (u8s zs)) (hk : 0 < n) :
    ∃ ad x, A = some ad ∧ ad.block < B ∧ Hid (zs[0]? = some x) ∧ w.cell? ad = some (.int .u8 x) := by
  obtain ⟨ad, x, h1, h2, h3, h4⟩ := h.u8at hk
  rw [add_zero] at h4
  exact ⟨ad, x, h1, h2, h3, h4⟩
/-- A slice away from block g, where only g (and what is new) may have turned. -/
theorem Reads.only {w w' : World} {B size n g : Nat} {A : Option Addr} {xs : List Value} (h : Reads w B size A n xs) (hB : B ≤ w.heap.size) (hne : ∀ ad, A = some ad → ad.block ≠ g) (hg : w.grownBy w' (some g)) : Reads w' B size A n xs :=
  ⟨h.1, fun hn => by
    obtain ⟨ad, e, hb, hc⟩ := h.2 hn
    refine ⟨ad, e, hb, fun j u hu => ?_⟩
    rw [← hc j u hu]
    refine World.cell?_of_block ?_
    rw [block_of_add]
    exact hg.block ad.block (by omega) (fun e' => hne ad e (by injection e'))⟩
theorem Reads.away {w : World} {B size n g : Nat} {A : Option Addr} {xs : List Value} (h : Reads w B size A n xs) (hB : B ≤ g) : 0 < n → ∀ ad, A = some ad → ad.block ≠ g := by
  intro hn ad e
  obtain ⟨ad', e', hb, _⟩ := h.2 hn
  rw [e] at e'
  injection e' with e'
  subst e'
  omega
theorem only_drewN {a w : World} {row : Option Nat} (h : a.grownBy w row) (n : Nat) : a.grownBy (w.drewN n) row := ⟨h.os, h.tape, h.output, h.size, h.block⟩
theorem only_drew {a w : World} {row : Option Nat} (h : a.grownBy w row) : a.grownBy w.drew row := ⟨h.os, h.tape, h.output, h.size, h.block⟩
theorem only_alloc {a w : World} {row : Option Nat} (h : a.grownBy w row) (o : Obj) : a.grownBy (w.alloc o) row :=
  ⟨h.os, h.tape, h.output, Nat.le_trans h.size (by simp), fun i hi hne => (Below.heap_alloc w o i (Nat.lt_of_lt_of_le hi h.size)).trans (h.block i hi hne)⟩
theorem only_setCell {a w : World} {g : Nat} (h : a.grownBy w (some g)) {p : Addr} (hp : p.block = g ∨ a.heap.size ≤ p.block) (u : Value) : a.grownBy (w.setCell p u) (some g) :=
  ⟨h.os, h.tape, h.output, by simpa [World.setCell] using h.size, fun i hi hne => (Below.heap_setCell w p u i (by
    rintro rfl
    rcases hp with hp | hp
    · exact hne (by rw [hp])
    · omega)).trans (h.block i hi hne)⟩
theorem only_of_below {a w : World} (h : Below a.heap.size a w) (row : Option Nat) : a.grownBy w row := ⟨h.os, h.tape, h.output, h.size, fun i hi _ => h.block i hi⟩
theorem only_trans {a b c : World} {g : Nat} (h : a.grownBy b (some g)) (k : b.grownBy c (some g)) : a.grownBy c (some g) :=
  ⟨k.os.trans h.os, k.tape.trans h.tape, k.output.trans h.output, Nat.le_trans h.size k.size, fun i hi hne => (k.block i (Nat.lt_of_lt_of_le hi h.size) hne).trans (h.block i hi hne)⟩
/-- A byte at a literal place that is not 0, in the walk's own spelling. -/
theorem Reads.u8atc {w : World} {B n k : Nat} {A : Option Addr} {zs : List Int} (h : Reads w B 1 A n (u8s zs)) (hk : k < n) (h0 : k ≠ 0) :
    ∃ ad x, A = some ad ∧ ad.block < B ∧ Hid (zs[k]? = some x) ∧ w.cell? ⟨ad.block, ad.off + k, none⟩ = some (.int .u8 x) := by
  obtain ⟨ad, x, h1, h2, h3, h4⟩ := h.u8at hk
  have e : ad.add k = ⟨ad.block, ad.off + k, none⟩ := by unfold Addr.add; simp [h0]
  rw [e] at h4
  exact ⟨ad, x, h1, h2, h3, h4⟩
/-- 's[k:]' of bytes. -/
theorem Reads.u8cut {w : World} {B n k cap : Nat} {A : Option Addr} {zs : List Int} (h : Reads w B 1 A n (u8s zs)) (hk : k ≤ n) (hc : n ≤ cap) :
    Reads w B 1 (if cap = k then A else A.map (·.add k)) (n - k) (u8s (zs.drop k)) := by
  have := h.cut hk hc
  simpa [u8s_drop] using this

/-- 's[:k]' of bytes. -/
theorem Reads.u8pre {w : World} {B n k : Nat} {A : Option Addr} {zs : List Int} (h : Reads w B 1 A n (u8s zs)) (hk : k ≤ n) : Reads w B 1 A k (u8s (zs.take k)) := by
  have := h.pre hk
  simpa [u8s_take] using this
/-- 's[k:]' at a literal k below the capacity, in the walk's own spelling. -/
theorem Reads.u8cutc {w : World} {B n k : Nat} {A : Option Addr} {zs : List Int} (h : Reads w B 1 A n (u8s zs)) (hk : k ≤ n) (h0 : k ≠ 0) :
    Reads w B 1 (A.map fun x => ⟨x.block, x.off + k, none⟩) (n - k) (u8s (zs.drop k)) := by
  have := h.cut (cap := n + 1 + k) hk (by omega)
  rw [if_neg (by omega), Nat.mul_one, u8s_drop] at this
  have e : (fun x : Addr => x.add k) = fun x => ⟨x.block, x.off + k, none⟩ := by funext x; unfold Addr.add; simp [h0]
  rwa [e] at this
theorem map_block {A : Option Addr} {k g : Nat} (h : ∀ ad, A = some ad → ad.block ≠ g) : ∀ ad, A.map (fun x => (⟨x.block, x.off + k, none⟩ : Addr)) = some ad → ad.block ≠ g := by
  intro ad had
  rcases A with _ | q
  · cases had
  · simp at had
    rw [← had]
    exact h q rfl
theorem map_block_if {A : Option Addr} {k c g : Nat} (h : ∀ ad, A = some ad → ad.block ≠ g) : ∀ ad, (if c = k then A else A.map (·.add k)) = some ad → ad.block ≠ g := by
  intro ad had
  split at had
  · exact h ad had
  · rcases A with _ | q
    · cases had
    · simp at had
      rw [← had, block_of_add]
      exact h q rfl

/-- All are bytes. -/
def Oct (zs : List Int) : Prop := ∀ (i : Nat) (x : Int), zs[i]? = some x → 0 ≤ x ∧ x ≤ 255
theorem Oct.drop {zs : List Int} (h : Oct zs) (k : Nat) : Oct (zs.drop k) := fun i x hx => h (k + i) x (by rw [← hx, List.getElem?_drop])
theorem Oct.take {zs : List Int} (h : Oct zs) (k : Nat) : Oct (zs.take k) := fun i x hx => h i x (by
  rw [List.getElem?_take] at hx
  split at hx
  · exact hx
  · cases hx)
theorem Oct.append {a b : List Int} (ha : Oct a) (hb : Oct b) : Oct (a ++ b) := fun i x hx => by
  rw [List.getElem?_append] at hx
  split at hx
  · exact ha _ _ hx
  · exact hb _ _ hx
theorem Oct.mem {zs : List Int} (h : Oct zs) {x : Int} (hx : x ∈ zs) : 0 ≤ x ∧ x ≤ 255 := by
  obtain ⟨i, hi⟩ := List.getElem?_of_mem hx
  exact h i x hi
theorem Oct.of_mem {zs : List Int} (h : ∀ x ∈ zs, 0 ≤ x ∧ x ≤ 255) : Oct zs := fun _ x hx => h x (List.mem_of_getElem? hx)
theorem Oct.of_wf {zs : List Int} (h : ∀ n ∈ zs, (Lit.int .u8 n).wf = true) : Oct zs := Oct.of_mem fun x hx => bounds_u8 (h x hx)

/-- What the frame of a law says of a slice of integers that came in. -/
def IsRow (k : IntKind) (w : World) (a : Option Addr) (len cap : Nat) (zs : List Int) : Prop :=
  (a = none ∧ len = 0 ∧ cap = 0 ∧ zs = []) ∨
  ∃ x, a = some x ∧ len ≤ cap ∧ cap ≤ maxLen ∧ zs.length = cap ∧ (∀ i, i < zs.length → w.cell? (x.add i) = some (.int k (zs.getD i 0))) ∧ ∀ n ∈ zs, (Lit.int k n).wf = true
theorem cell_lt {w : World} {a : Addr} {v : Value} (h : w.cell? a = some v) : a.block < w.heap.size := by
  rcases Nat.lt_or_ge a.block w.heap.size with hlt | hge
  · exact hlt
  · unfold World.cell? at h
    rw [Array.getElem?_eq_none hge] at h
    simp at h
theorem isRow_ints {k : IntKind} {w : World} {a : Option Addr} {len cap : Nat} {zs : List Int} (h : IsRow k w a len cap zs) :
    Reads w w.heap.size 1 a len ((zs.take len).map (Value.int k)) ∧ (∀ n ∈ zs.take len, (Lit.int k n).wf = true) ∧ len ≤ cap ∧ cap ≤ 9223372036854775807 := by
  rcases h with ⟨rfl, rfl, rfl, rfl⟩ | ⟨x, rfl, hl, hm, hz, hc, hw⟩
  · exact ⟨Reads.none_, by simp, Nat.le_refl _, by omega⟩
  · unfold maxLen at hm
    refine ⟨⟨by simp; omega, fun hn => ?_⟩, fun n hn => hw n (List.mem_of_mem_take hn), hl, hm⟩
    have h0 := cell_lt (hc 0 (by omega))
    rw [block_of_add] at h0
    refine ⟨x, rfl, h0, fun j u hu => ?_⟩
    simp only [List.getElem?_map, Option.map_eq_some_iff] at hu
    obtain ⟨y, hy, rfl⟩ := hu
    rw [List.getElem?_take] at hy
    split at hy
    · have hj : j < zs.length := by
        rcases Nat.lt_or_ge j zs.length with hlt | hge
        · exact hlt
        · rw [List.getElem?_eq_none hge] at hy; cases hy
      rw [hc j hj, List.getD, hy]
      rfl
    · cases hy
theorem isRow_u8 {w : World} {a : Option Addr} {len cap : Nat} {zs : List Int} (h : IsRow .u8 w a len cap zs) :
    Reads w w.heap.size 1 a len (u8s (zs.take len)) ∧ Oct (zs.take len) ∧ len ≤ cap ∧ cap ≤ 9223372036854775807 :=
  ⟨(isRow_ints h).1, Oct.of_wf (isRow_ints h).2.1, (isRow_ints h).2.2⟩

/-- Block g is just the cells cs of element type t, none frozen. -/
def Blk (w : World) (g : Nat) (t : TypeId) (cs : Array Value) : Prop := w.heap[g]? = some (.cells cs t (0, 0))

section
variable {w w' : World} {g : Nat} {t : TypeId} {cs : Array Value}
theorem Blk.lt (h : Blk w g t cs) : g < w.heap.size := by
  rcases Nat.lt_or_ge g w.heap.size with hlt | hge
  · exact hlt
  · unfold Blk at h; rw [Array.getElem?_eq_none hge] at h; cases h
theorem Blk.cell (h : Blk w g t cs) (i : Nat) : w.cell? ⟨g, i, none⟩ = cs[i]? := cell_of_row w g i cs t (0, 0) h
theorem Blk.frozen (h : Blk w g t cs) (i : Nat) : w.frozen? ⟨g, i, none⟩ = false := by
  unfold Blk at h
  simp [World.frozen?, h]
theorem Blk.new (w : World) (t : TypeId) (cs : Array Value) : Blk (w.alloc (.cells cs t)) w.heap.size t cs := heap_alloc_new w _
theorem Blk.drewN (h : Blk w g t cs) (n : Nat) : Blk (w.drewN n) g t cs := h
theorem Blk.alloc (h : Blk w g t cs) (o : Obj) : Blk (w.alloc o) g t cs := (Below.heap_alloc w o g h.lt).trans h
theorem Blk.set_ (h : Blk w g t cs) (i : Nat) (u : Value) : Blk (w.setCell ⟨g, i, none⟩ u) g t (cs.setIfInBounds i u) := by
  unfold Blk at h ⊢
  simp [World.setCell, Array.getElem?_modify, h]
theorem Blk.far (h : Blk w g t cs) {p : Addr} (hp : g ≠ p.block) (u : Value) : Blk (w.setCell p u) g t cs := (Below.heap_setCell w p u g hp).trans h
theorem Blk.below {B : Nat} (h : Blk w g t cs) (hb : Below B w w') (hg : g < B) : Blk w' g t cs := (hb.block g hg).trans h
theorem Blk.later (h : Blk w g t cs) (hb : Below w.heap.size w w') : Blk w' g t cs := h.below hb h.lt
theorem Blk.grown {row : Option Nat} (h : Blk w g t cs) (hb : w.grownBy w' row) (hg : some g ≠ row) : Blk w' g t cs := (hb.block g h.lt hg).trans h
theorem Blk.reads {xs : List Value} (h : Blk w g t xs.toArray) {n : Nat} (hn : n ≤ xs.length) : Reads w (g + 1) 1 (some ⟨g, 0, none⟩) n (xs.take n) := by
  refine ⟨by simp [hn], fun _ => ⟨_, rfl, Nat.lt_succ_self _, fun j u hu => ?_⟩⟩
  rw [add_none, Nat.zero_add, h.cell]
  rw [List.getElem?_take] at hu
  split at hu
  · simpa using hu
  · cases hu
end

/-- Block g, of cap cells, none frozen, begins with the cells xs. -/
def Row (w : World) (g : Nat) (t : TypeId) (cap : Nat) (xs : List Value) : Prop := xs.length ≤ cap ∧ ∃ cur : Array Value, Blk w g t cur ∧ cur.size = cap ∧ cur.toList.take xs.length = xs
section
variable {w w' : World} {g cap : Nat} {t : TypeId} {xs : List Value}
theorem Row.lt (h : Row w g t cap xs) : g < w.heap.size := by obtain ⟨_, cur, hb, _⟩ := h; exact hb.lt
theorem Row.cell (h : Row w g t cap xs) {i : Nat} {u : Value} (hi : xs[i]? = some u) : w.cell? ⟨g, i, none⟩ = some u := by
  obtain ⟨_, cur, hb, _, ht⟩ := h
  rw [hb.cell]
  rw [← ht, List.getElem?_take] at hi
  split at hi
  · simpa using hi
  · cases hi
theorem Row.frozen (h : Row w g t cap xs) (i : Nat) : w.frozen? ⟨g, i, none⟩ = false := by obtain ⟨_, cur, hb, _⟩ := h; exact hb.frozen i
theorem Row.reads (h : Row w g t cap xs) {n : Nat} (hn : xs.length = n) : Reads w w.heap.size 1 (some ⟨g, 0, none⟩) n xs :=
  ⟨by omega, fun _ => ⟨_, rfl, h.lt, fun j u hu => by rw [add_none, Nat.zero_add]; exact h.cell hu⟩⟩
theorem Row.set_ (h : Row w g t cap xs) (i : Nat) (u : Value) : Row (w.setCell ⟨g, i, none⟩ u) g t cap (xs.set i u) := by
  obtain ⟨hl, cur, hb, hs, ht⟩ := h
  refine ⟨by simpa using hl, cur.setIfInBounds i u, hb.set_ i u, by simpa using hs, ?_⟩
  rw [List.length_set, Array.toList_setIfInBounds, List.take_set, ht]
theorem Row.below {B : Nat} (h : Row w g t cap xs) (hb : Below B w w') (hg : g < B) : Row w' g t cap xs := by
  obtain ⟨hl, cur, hk, r⟩ := h
  exact ⟨hl, cur, hk.below hb hg, r⟩
theorem Row.later (h : Row w g t cap xs) (hb : Below w.heap.size w w') : Row w' g t cap xs := h.below hb h.lt
theorem Row.alloc (h : Row w g t cap xs) (o : Obj) : Row (w.alloc o) g t cap xs := by
  obtain ⟨hl, cur, hk, r⟩ := h
  exact ⟨hl, cur, hk.alloc o, r⟩
theorem Row.far (h : Row w g t cap xs) {p : Addr} (hp : g ≠ p.block) (u : Value) : Row (w.setCell p u) g t cap xs := by
  obtain ⟨hl, cur, hk, r⟩ := h
  exact ⟨hl, cur, hk.far hp u, r⟩
theorem Row.drewN (h : Row w g t cap xs) (n : Nat) : Row (w.drewN n) g t cap xs := h
theorem Row.of_own {base n : Nat} {v : Value} (h : w.ownsRow base t 1 v n xs) (hn : 0 < n) : ∃ g cap, v = .slice (some ⟨g, 0, none⟩) n cap ∧ base ≤ g ∧ n ≤ cap ∧ cap ≤ maxLen ∧ Row w g t cap xs := by
  obtain ⟨hl, h⟩ := h
  rcases h with ⟨_, h0⟩ | ⟨g, cap, cur, hv, hg, hb, hnc, hm, hs, ht⟩
  · omega
  · exact ⟨g, cap, hv, hg, hnc, hm, by omega, cur, hb, by omega, by rw [hl]; exact ht⟩
end

/-- A list L of cells, the first k written, behind them the zero z. -/
def Fill (z : Value) (L : List Value) (k : Nat) : Array Value := (L.take k ++ List.replicate (L.length - k) z).toArray
theorem Fill.zero (z : Value) (L : List Value) : Fill z L 0 = Array.replicate L.length z := by simp [Fill]
theorem Fill.full (z : Value) (L : List Value) {k : Nat} (h : L.length ≤ k) : Fill z L k = L.toArray := by
  unfold Fill
  rw [List.take_of_length_le h, show L.length - k = 0 by omega]
  simp
theorem Fill.at_ (z : Value) (L : List Value) {k : Nat} (h : k < L.length) : (Fill z L k)[k]? = some z := by
  unfold Fill
  simp only [List.getElem?_toArray]
  have hm : min k L.length = k := by omega
  rw [List.getElem?_append_right (by simp [hm])]
  simp [hm, List.getElem?_replicate]
  omega
theorem Fill.set (z : Value) (L : List Value) {k : Nat} {u : Value} (h : L[k]? = some u) : (Fill z L k).setIfInBounds k u = Fill z L (k + 1) := by
  have hl : k < L.length := by
    rcases Nat.lt_or_ge k L.length with hlt | hge
    · exact hlt
    · rw [List.getElem?_eq_none hge] at h; cases h
  unfold Fill
  rw [List.setIfInBounds_toArray]
  congr 1
  rw [List.set_append_right _ _ (by simp; omega)]
  have e1 : k - (L.take k).length = 0 := by rw [List.length_take]; omega
  have e2 : L.length - k = (L.length - (k + 1)) + 1 := by omega
  rw [e1, e2, List.replicate_succ, List.set_cons_zero, List.take_add_one, h]
  simp

theorem below_drewN {B : Nat} {a w : World} (h : Below B a w) (n : Nat) : Below B a (w.drewN n) := ⟨h.os, h.tape, h.output, h.size, h.block⟩
theorem below_of_drewN (B : Nat) (w : World) (n : Nat) : Below B w (w.drewN n) := ⟨rfl, rfl, rfl, Nat.le_refl _, fun _ _ => rfl⟩
/-- A call that only reads, told as one that leaves old memory alone (the world behind it is then a name). -/
theorem toBelow {P : Program} {f : FuncId} {args : Array Value} {w : World} {v : Value} (h : Calls P f args w fun e w' => e = .returned v ∧ ∃ k, w' = w.drewN k) :
    Calls P f args w fun e w' => e = .returned v ∧ Below w.heap.size w w' :=
  h.mono fun _ _ ⟨he, k, hk⟩ => ⟨he, by rw [hk]; exact below_of_drewN _ _ k⟩
theorem toBelow0 {P : Program} {f : FuncId} {args : Array Value} {w : World} {v : Value} (h : Calls P f args w fun e w' => e = .returned v ∧ w' = w) :
    Calls P f args w fun e w' => e = .returned v ∧ Below w.heap.size w w' :=
  h.mono fun _ _ ⟨he, hk⟩ => ⟨he, by rw [hk]; exact Below.refl _ _⟩

/-- What is asked of a slice type t with elements e of 'size' cells and 'bytes' bytes. -/
structure El (P : Program) (t e : TypeId) (size bytes : Nat) : Prop where
  ht : P.underlying t = some (.slice e)
  info : ∃ i z, P.info? e = some i ∧ i.zero = some z ∧ i.size = size ∧ i.bytes = bytes ∧ z.cells.size = size
  pos : 0 < size

theorem El.mk' {P : Program} {t e : TypeId} {z : Value} {size bytes : Nat} (ht : P.underlying t = some (.slice e)) (hi : (P.info? e).map (fun i => (i.zero, i.size, i.bytes)) = some (some z, size, bytes)) (hz : z.cells.size = size) (hp : 0 < size) : El P t e size bytes := by
  obtain ⟨i, h, hzz⟩ := Option.map_eq_some_iff.1 hi
  simp only [Prod.mk.injEq] at hzz
  exact ⟨ht, ⟨i, z, h, hzz.1, hzz.2.1, hzz.2.2, hz⟩, hp⟩

theorem run_append_nil {P : Program} (w : World) {base : Nat} {t ty e : TypeId} {i : TypeInfo} {size : Nat} (ht : P.underlying t = some (.slice e)) (hi : P.info? e = some i)
    {v : Value} {n : Nat} {xs : List Value} (hown : w.ownsRow base e size v n xs) (c : Nat) : (Builtin.append_ #[t, t] ty #[v, .slice none 0 c]).run P w = .ok v w := by
  rcases hown.2 with ⟨rfl, rfl⟩ | ⟨g, cap, cur, rfl, _, _, hnc, _⟩
  · simp [Builtin.append_, run_underlying ht, sizeOf, typeInfo, hi, Builtin.lenOf, Builtin.firstCells]
  · simp [Builtin.append_, run_underlying ht, sizeOf, typeInfo, hi, Builtin.lenOf, Builtin.firstCells, hnc, storeCells]

theorem run_app {P : Program} {w : World} {t e : TypeId} {size bytes : Nat} (E : El P t e size bytes) (ty : TypeId) {base : Nat} {v : Value} {n : Nat} {xs : List Value} (hown : w.ownsRow base e size v n xs)
    {B : Nat} {A : Option Addr} {m : Nat} (c : Nat) {news : List Value} (hr : Reads w B size A m news) (h1 : ∀ u ∈ news, u.oneCell' = true)
    (h63 : n + m ≤ maxLen) (hbytes : (n + m) * bytes ≤ 140737488355328) (hbase : base ≤ w.heap.size) :
    ∃ v' w', (Builtin.append_ #[t, t] ty #[v, .slice A m c]).run P w = .ok v' w' ∧ w'.ownsRow base e size v' (n + m) (xs ++ news) ∧ w.grownBy w' v.ownBlock ∧
      (v'.ownBlock = v.ownBlock ∨ v'.ownBlock = some w.heap.size) := by
  obtain ⟨i, z, hi, hz, hsize, hby, hzs⟩ := E.info
  rcases A with _ | ad
  · have hm : m = 0 := by
      rcases Nat.eq_zero_or_pos m with h0 | h0
      · exact h0
      · obtain ⟨ad, h, _⟩ := hr.2 h0
        cases h
    subst hm
    have hn : news = [] := List.eq_nil_of_length_eq_zero (by simpa using hr.1)
    subst hn
    exact ⟨v, w, run_append_nil w E.ht hi hown c, by simpa using hown, World.grownBy.refl w _, .inl rfl⟩
  · have hcells : ∀ j u, news[j]? = some u → w.cell? (ad.add j) = some u := by
      intro j u hu
      rcases Nat.eq_zero_or_pos m with h0 | h0
      · subst h0
        have hn : news = [] := List.eq_nil_of_length_eq_zero (by simpa using hr.1)
        subst hn
        simp at hu
      · obtain ⟨ad', h, _, hc⟩ := hr.2 h0
        injection h with h
        subst h
        exact hc j u hu
    obtain ⟨v', w', hrun, h2, h3, _, h5⟩ := run_append_own_at (P := P) w base t ty e i z size bytes E.ht hi hz hsize hby hzs E.pos v n xs hown ad m c news hr.1 hcells h1 h63 hbytes hbase
    exact ⟨v', w', hrun, h2, h3, h5⟩

theorem below_of_own {w w' : World} {base size n : Nat} {e : TypeId} {v : Value} {xs : List Value} (hown : w.ownsRow base e size v n xs) (hg : w.grownBy w' v.ownBlock) (hb : base ≤ w.heap.size) : Below base w w' :=
  (Below.refl _ _).grown hg hb fun k hk => (hown.lt k hk).1

/-- 's = append(s, xs...)' onto a row of the call's own, the source nil, empty or not. -/
theorem wpList_app {P : Program} {ops : Array Oper} {rest : List Oper} {o : Oper} {a : Act} {Q : Exit → Act → World → Prop} {w : World} {t e : TypeId} {size bytes : Nat} (E : El P t e size bytes)
    (hgd : o.guard = none) (s x : Operand) (ho : o.op = .call { callee := .builtin .append, args := #[s, x], argTypes := #[t, t] })
    {base : Nat} {v : Value} {n : Nat} {xs : List Value} (hown : w.ownsRow base e size v n xs) (hs : a.eval s = v)
    {B : Nat} {A : Option Addr} {m c : Nat} {news : List Value} (hr : Reads w B size A m news) (hx : a.eval x = .slice A m c) (h1 : ∀ u ∈ news, u.oneCell' = true)
    (h63 : n + m ≤ maxLen) (hbytes : (n + m) * bytes ≤ 140737488355328) (hbase : base ≤ w.heap.size)
    (h : ∀ v' w', w'.ownsRow base e size v' (n + m) (xs ++ news) → Below base w w' → w.grownBy w' v.ownBlock → (v'.ownBlock = v.ownBlock ∨ v'.ownBlock = some w.heap.size) → wpList P ops Q rest (a.put o.dst v') w') :
    wpList P ops Q (o :: rest) a w := by
  obtain ⟨v', w', hrun, h2, h3, h4⟩ := run_app E o.type hown c hr h1 h63 hbytes hbase
  refine wpList_plain hgd fun K hK => ?_
  unfold Oper.wp execOp
  simp only [ho, resolve, invoke, builtin, Sem.run_bind, Sem.run_pure, Result.andThen_ok, List.map_toArray, List.map_cons, List.map_nil, hs, hx, hrun]
  exact hK _ _ (h v' w' h2 (below_of_own hown h3 hbase) h3 h4)

theorem Reads.lit (w : World) (xs : List Value) (t : TypeId) {n : Nat} (hn : xs.length = n) : Reads (w.alloc (.cells xs.toArray t)) (w.heap.size + 1) 1 (some ⟨w.heap.size, 0, none⟩) n xs := by
  have h := (Blk.new w t xs.toArray).reads (n := n) (by omega)
  rwa [List.take_of_length_le (by omega)] at h
theorem Reads.lit_ (w : World) (xs : List Value) (t : TypeId) {n : Nat} (hn : xs.length = n) : Reads (w.alloc (.cells xs.toArray t)) (w.alloc (.cells xs.toArray t)).heap.size 1 (some ⟨w.heap.size, 0, none⟩) n xs := by
  rw [World.size_alloc]
  exact Reads.lit w xs t hn
/-- A new block, then a call that leaves old memory alone. -/
theorem below_lit {a w w' : World} (h : Below a.heap.size a w) (o : Obj) (hc : Below (w.alloc o).heap.size (w.alloc o) w') : Below a.heap.size a w' :=
  (h.alloc h.size o).trans (hc.mono (by rw [World.size_alloc]; have := h.size; omega))
theorem below_then {a w w' : World} (h : Below a.heap.size a w) (hc : Below w.heap.size w w') : Below a.heap.size a w' := h.trans (hc.mono h.size)
theorem Reads.one_new (w : World) (x : Value) (t : TypeId) : Reads (w.alloc (.cells #[x] t)) (w.heap.size + 1) 1 (some ⟨w.heap.size, 0, none⟩) 1 [x] :=
  ⟨rfl, fun _ => ⟨_, rfl, Nat.lt_succ_self _, cell_one_new _ _ _⟩⟩

theorem bcell {W w1 : World} (hb : Below W.heap.size W w1) : (∀ b o, b < W.heap.size → w1.cell? ⟨b, o, none⟩ = W.cell? ⟨b, o, none⟩) ∧ (∀ b o, b < W.heap.size → w1.frozen? ⟨b, o, none⟩ = W.frozen? ⟨b, o, none⟩) :=
  ⟨fun b o h => hb.cell (p := ⟨b, o, none⟩) h, fun b o h => hb.frozen (p := ⟨b, o, none⟩) h⟩
end Go.Proofs.Ytpncbggjngamgaa
