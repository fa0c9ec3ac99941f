/-
  Plain words on memory, shared by all contracts of this seat: a slice that reads as a list, a block known whole, a list being filled.
  More plain words on rows of bytes.
  What a call leaves as it was: all blocks but those named; and the rows, lists and blocks that are carried over it.
  A map whose keys are plain data, as the list of its entries in the order in which they came: look-up, store, delete, len.
  api.Key as the key of a map.
  order.Keys, walked; it is an order of keys. Printed by gen_sk1.py.
  Rows that may be wider than their slices say: what they are, and append onto them.
-/
import Derived.Test.YtpncbggjngamgaaGreatDoorProg
import Derived.WalkKit
import Derived.WalkSpells
import Derived.WalkLawsBesides
import Derived.Deep.AppendLies
import Derived.Maps.AppendAt
import Derived.OwnWalk
import Derived.Deep.Draws
import Derived.Deep.QuietTactic
import Derived.BigQuiet
import Derived.Lib.Hide
import Derived.Deep.LoopGhost
import Derived.Deep.DeepMust
import Derived.Laws.Rows
import Derived.Outline
import Derived.OpenShut
import Derived.Laws.StructEq
import Derived.Laws.Tables
import Derived.ArgAppend
import Derived.Deep.WholeRow
namespace Go.Proofs.YtpncbggjngamgaaGreatDoor
set_option linter.unusedVariables false
open Go.RowKit

theorem block_of_add (a : Addr) (n : Nat) : (a.add n).block = a.block := by unfold Addr.add; split <;> rfl
theorem add_of_add (a : Addr) (i j : Nat) : (a.add i).add j = a.add (i + j) := by
  unfold Addr.add
  by_cases hi : i = 0 <;> by_cases hj : j = 0 <;> simp [hi, hj, Nat.add_assoc]
theorem add_none (b o i : Nat) : (⟨b, o, none⟩ : Addr).add i = ⟨b, o + i, none⟩ := by
  unfold Addr.add
  by_cases hi : i = 0 <;> simp [hi]

/-- The slice '.slice A n _' holds the cells xs, below block B. -/
def Reads (w : World) (B size : Nat) (A : Option Addr) (n : Nat) (xs : List Value) : Prop :=
  xs.length = n * size ∧ (0 < n → ∃ ad, A = some ad ∧ ad.block < B ∧ ∀ j u, xs[j]? = some u → w.cell? (ad.add j) = some u)

/-- Bytes as cells. -/
def u8s (zs : List Int) : List Value := zs.map (Value.int .u8)

section
variable {w w' : World} {B B' size n : Nat} {A : Option Addr} {xs : List Value}
theorem Reads.none_ : Reads w B size A 0 [] := ⟨by simp, fun h => absurd h (by omega)⟩
theorem Reads.at_ {k : Nat} (h : Reads w B 1 A n xs) (hk : k < n) : ∃ ad u, A = some ad ∧ ad.block < B ∧ xs[k]? = some u ∧ w.cell? (ad.add k) = some u := by
  obtain ⟨ad, e, hb, hc⟩ := h.2 (by omega)
  have hl : k < xs.length := by have := h.1; omega
  exact ⟨ad, xs[k], e, hb, List.getElem?_eq_getElem hl, hc k _ (List.getElem?_eq_getElem hl)⟩
theorem Reads.keep (h : Reads w B size A n xs) (hk : ∀ p : Addr, p.block < B → w'.cell? p = w.cell? p) : Reads w' B size A n xs :=
  ⟨h.1, fun hn => by
    obtain ⟨ad, e, hb, hc⟩ := h.2 hn
    exact ⟨ad, e, hb, fun j u hu => (hk _ (by rw [block_of_add]; exact hb)).trans (hc j u hu)⟩⟩
theorem Reads.more (h : Reads w B size A n xs) (hB : B ≤ B') : Reads w B' size A n xs :=
  ⟨h.1, fun hn => by
    obtain ⟨ad, e, hb, hc⟩ := h.2 hn
    exact ⟨ad, e, by omega, hc⟩⟩
theorem Reads.below (h : Reads w B size A n xs) (hb : Below B w w') : Reads w' B size A n xs := h.keep fun _ hp => hb.cell hp
theorem Reads.drewN (h : Reads w B size A n xs) (k : Nat) : Reads (w.drewN k) B size A n xs := h
theorem Reads.later {a b : World} (h : Reads a a.heap.size size A n xs) (hb : Below a.heap.size a b) : Reads b b.heap.size size A n xs := (h.below hb).more hb.size
theorem Reads.alloc (h : Reads w B size A n xs) (hB : B ≤ w.heap.size) (o : Obj) : Reads (w.alloc o) B size A n xs := h.keep fun p hp => World.cell?_alloc_lt w o p (by omega)
theorem Reads.setCell (h : Reads w B size A n xs) {p : Addr} (hB : B ≤ p.block) (u : Value) : Reads (w.setCell p u) B size A n xs :=
  h.keep fun q hq => World.cell?_setCell_other w p q u (fun e => by subst e; omega)
theorem Reads.grown (h : Reads w B size A n xs) {row : Option Nat} (hg : w.grownBy w' row) (hB : B ≤ w.heap.size) (hr : ∀ g, row = some g → B ≤ g) : Reads w' B size A n xs :=
  h.keep fun p hp => World.cell?_of_block (hg.block p.block (by omega) (fun e => by have := hr _ e.symm; omega))
theorem Reads.cut (h : Reads w B size A n xs) {k cap : Nat} (hk : k ≤ n) (hc : n ≤ cap) :
    Reads w B size (if cap = k then A else A.map (·.add (k * size))) (n - k) (xs.drop (k * size)) := by
  refine ⟨by rw [List.length_drop, h.1, Nat.sub_mul], fun hn => ?_⟩
  obtain ⟨ad, rfl, hb, hcell⟩ := h.2 (by omega)
  rw [if_neg (by omega)]
  refine ⟨ad.add (k * size), rfl, by rw [block_of_add]; exact hb, fun j u hu => ?_⟩
  rw [add_of_add]
  exact hcell _ u (by rw [← hu, List.getElem?_drop])
/-- The head of a slice. -/
theorem Reads.pre (h : Reads w B 1 A n xs) {k : Nat} (hk : k ≤ n) : Reads w B 1 A k (xs.take k) := by
  refine ⟨by rw [List.length_take, h.1]; omega, fun hn => ?_⟩
  obtain ⟨ad, rfl, hb, hcell⟩ := h.2 (by omega)
  refine ⟨ad, rfl, hb, fun j u hu => hcell j u ?_⟩
  rw [List.getElem?_take] at hu
  split at hu
  · exact hu
  · cases hu
theorem Reads.of_own {base : Nat} {e : TypeId} {c : Nat} (h : w.ownsRow base e size (.slice A n c) n xs) : Reads w w.heap.size size A n xs := by
  refine ⟨h.1, fun hn => ?_⟩
  obtain ⟨g, cap, hv, _, hlt⟩ := h.form hn
  have hA : A = some ⟨g, 0, none⟩ := by injection hv
  subst hA
  exact ⟨_, rfl, hlt, h.cells (g := g) rfl⟩
end

theorem u8s_length (zs : List Int) : (u8s zs).length = zs.length := by simp [u8s]
theorem u8s_get {zs : List Int} {k : Nat} {u : Value} (h : (u8s zs)[k]? = some u) : ∃ x, zs[k]? = some x ∧ u = .int .u8 x := by
  simp only [u8s, List.getElem?_map, Option.map_eq_some_iff] at h
  obtain ⟨x, hx, rfl⟩ := h
  exact ⟨x, hx, rfl⟩
theorem u8s_get_of {zs : List Int} {k : Nat} {x : Int} (h : zs[k]? = some x) : (u8s zs)[k]? = some (.int .u8 x) := by simp [u8s, h]
theorem u8s_drop (zs : List Int) (k : Nat) : (u8s zs).drop k = u8s (zs.drop k) := by simp [u8s]
theorem u8s_take (zs : List Int) (k : Nat) : (u8s zs).take k = u8s (zs.take k) := by simp [u8s]
theorem u8s_append (a b : List Int) : u8s (a ++ b) = u8s a ++ u8s b := by simp [u8s]
theorem u8s_one {zs : List Int} : ∀ u ∈ u8s zs, u.oneCell' = true := by
  intro u hu
  simp only [u8s, List.mem_map] at hu
  obtain ⟨x, _, rfl⟩ := hu
  rfl

theorem Reads.u8len {w : World} {B n : Nat} {A : Option Addr} {zs : List Int} (h : Reads w B 1 A n (u8s zs)) : zs.length = n := by
  have := h.1; simpa [u8s] using this
theorem Reads.u8at {w : World} {B n k : Nat} {A : Option Addr} {zs : List Int} (h : Reads w B 1 A n (u8s zs)) (hk : k < n) :
    ∃ ad x, A = some ad ∧ ad.block < B ∧ Hid (zs[k]? = some x) ∧ w.cell? (ad.add k) = some (.int .u8 x) := by
  obtain ⟨ad, u, e, hb, hx, hc⟩ := h.at_ hk
  obtain ⟨x, hx', rfl⟩ := u8s_get hx
  exact ⟨ad, x, e, hb, hx', hc⟩
theorem add_zero (a : Addr) : a.add 0 = a := by unfold Addr.add; simp
/-- The first byte, in the walk's own spelling. -/
theorem Reads.u8at0 {w : World} {B n : Nat} {A : Option Addr} {zs : List Int} (h : Reads w B 1 A n (u8s zs)) (hk : 0 < n) :
    ∃ ad x, A = some ad ∧ ad.block < B ∧ Hid (zs[0]? = some x) ∧ w.cell? ad = some (.int .u8 x) := by
  obtain ⟨ad, x, h1, h2, h3, h4⟩ := h.u8at hk
  rw [add_zero] at h4
  exact ⟨ad, x, h1, h2, h3, h4⟩
/-- A slice away from block g, where only g (and what is new) may have turned. -/
theorem Reads.only {w w' : World} {B size n g : Nat} {A : Option Addr} {xs : List Value} (h : Reads w B size A n xs) (hB : B ≤ w.heap.size) (hne : ∀ ad, A = some ad → ad.block ≠ g) (hg : w.grownBy w' (some g)) : Reads w' B size A n xs :=
  ⟨h.1, fun hn => by
    obtain ⟨ad, e, hb, hc⟩ := h.2 hn
    refine ⟨ad, e, hb, fun j u hu => ?_⟩
    rw [← hc j u hu]
    refine World.cell?_of_block ?_
    rw [block_of_add]
    exact hg.block ad.block (by omega) (fun e' => hne ad e (by injection e'))⟩
theorem Reads.away {w : World} {B size n g : Nat} {A : Option Addr} {xs : List Value} (h : Reads w B size A n xs) (hB : B ≤ g) : 0 < n → ∀ ad, A = some ad → ad.block ≠ g := by
  intro hn ad e
  obtain ⟨ad', e', hb, _⟩ := h.2 hn
  rw [e] at e'
  injection e' with e'
  subst e'
  omega
theorem only_drewN {a w : World} {row : Option Nat} (h : a.grownBy w row) (n : Nat) : a.grownBy (w.drewN n) row := ⟨h.os, h.tape, h.output, h.size, h.block⟩
theorem only_drew {a w : World} {row : Option Nat} (h : a.grownBy w row) : a.grownBy w.drew row := ⟨h.os, h.tape, h.output, h.size, h.block⟩
theorem only_alloc {a w : World} {row : Option Nat} (h : a.grownBy w row) (o : Obj) : a.grownBy (w.alloc o) row :=
  ⟨h.os, h.tape, h.output, Nat.le_trans h.size (by simp), fun i hi hne => (Below.heap_alloc w o i (Nat.lt_of_lt_of_le hi h.size)).trans (h.block i hi hne)⟩
theorem only_setCell {a w : World} {g : Nat} (h : a.grownBy w (some g)) {p : Addr} (hp : p.block = g ∨ a.heap.size ≤ p.block) (u : Value) : a.grownBy (w.setCell p u) (some g) :=
  ⟨h.os, h.tape, h.output, by simpa [World.setCell] using h.size, fun i hi hne => (Below.heap_setCell w p u i (by
    rintro rfl
    rcases hp with hp | hp
    · exact hne (by rw [hp])
    · omega)).trans (h.block i hi hne)⟩
theorem only_of_below {a w : World} (h : Below a.heap.size a w) (row : Option Nat) : a.grownBy w row := ⟨h.os, h.tape, h.output, h.size, fun i hi _ => h.block i hi⟩
theorem only_trans {a b c : World} {g : Nat} (h : a.grownBy b (some g)) (k : b.grownBy c (some g)) : a.grownBy c (some g) :=
  ⟨k.os.trans h.os, k.tape.trans h.tape, k.output.trans h.output, Nat.le_trans h.size k.size, fun i hi hne => (k.block i (Nat.lt_of_lt_of_le hi h.size) hne).trans (h.block i hi hne)⟩
/-- A byte at a literal place that is not 0, in the walk's own spelling. -/
theorem Reads.u8atc {w : World} {B n k : Nat} {A : Option Addr} {zs : List Int} (h : Reads w B 1 A n (u8s zs)) (hk : k < n) (h0 : k ≠ 0) :
    ∃ ad x, A = some ad ∧ ad.block < B ∧ Hid (zs[k]? = some x) ∧ w.cell? ⟨ad.block, ad.off + k, none⟩ = some (.int .u8 x) := by
  obtain ⟨ad, x, h1, h2, h3, h4⟩ := h.u8at hk
  have e : ad.add k = ⟨ad.block, ad.off + k, none⟩ := by unfold Addr.add; simp [h0]
  rw [e] at h4
  exact ⟨ad, x, h1, h2, h3, h4⟩
/-- 's[k:]' of bytes. -/
theorem Reads.u8cut {w : World} {B n k cap : Nat} {A : Option Addr} {zs : List Int} (h : Reads w B 1 A n (u8s zs)) (hk : k ≤ n) (hc : n ≤ cap) :
    Reads w B 1 (if cap = k then A else A.map (·.add k)) (n - k) (u8s (zs.drop k)) := by
  have := h.cut hk hc
  simpa [u8s_drop] using this

/-- 's[:k]' of bytes. -/
theorem Reads.u8pre {w : World} {B n k : Nat} {A : Option Addr} {zs : List Int} (h : Reads w B 1 A n (u8s zs)) (hk : k ≤ n) : Reads w B 1 A k (u8s (zs.take k)) := by
  have := h.pre hk
  simpa [u8s_take] using this
/-- 's[k:]' at a literal k below the capacity, in the walk's own spelling. -/
theorem Reads.u8cutc {w : World} {B n k : Nat} {A : Option Addr} {zs : List Int} (h : Reads w B 1 A n (u8s zs)) (hk : k ≤ n) (h0 : k ≠ 0) :
    Reads w B 1 (A.map fun x => ⟨x.block, x.off + k, none⟩) (n - k) (u8s (zs.drop k)) := by
  have := h.cut (cap := n + 1 + k) hk (by omega)
  rw [if_neg (by omega), Nat.mul_one, u8s_drop] at this
  have e : (fun x : Addr => x.add k) = fun x => ⟨x.block, x.off + k, none⟩ := by funext x; unfold Addr.add; simp [h0]
  rwa [e] at this
theorem map_block {A : Option Addr} {k g : Nat} (h : ∀ ad, A = some ad → ad.block ≠ g) : ∀ ad, A.map (fun x => (⟨x.block, x.off + k, none⟩ : Addr)) = some ad → ad.block ≠ g := by
  intro ad had
  rcases A with _ | q
  · cases had
  · simp at had
    rw [← had]
    exact h q rfl
theorem map_block_if {A : Option Addr} {k c g : Nat} (h : ∀ ad, A = some ad → ad.block ≠ g) : ∀ ad, (if c = k then A else A.map (·.add k)) = some ad → ad.block ≠ g := by
  intro ad had
  split at had
  · exact h ad had
  · rcases A with _ | q
    · cases had
    · simp at had
      rw [← had, block_of_add]
      exact h q rfl

/-- All are bytes. -/
def Oct (zs : List Int) : Prop := ∀ (i : Nat) (x : Int), zs[i]? = some x → 0 ≤ x ∧ x ≤ 255
theorem Oct.drop {zs : List Int} (h : Oct zs) (k : Nat) : Oct (zs.drop k) := fun i x hx => h (k + i) x (by rw [← hx, List.getElem?_drop])
theorem Oct.take {zs : List Int} (h : Oct zs) (k : Nat) : Oct (zs.take k) := fun i x hx => h i x (by
  rw [List.getElem?_take] at hx
  split at hx
  · exact hx
  · cases hx)
theorem Oct.append {a b : List Int} (ha : Oct a) (hb : Oct b) : Oct (a ++ b) := fun i x hx => by
  rw [List.getElem?_append] at hx
  split at hx
  · exact ha _ _ hx
  · exact hb _ _ hx
theorem Oct.mem {zs : List Int} (h : Oct zs) {x : Int} (hx : x ∈ zs) : 0 ≤ x ∧ x ≤ 255 := by
  obtain ⟨i, hi⟩ := List.getElem?_of_mem hx
  exact h i x hi
theorem Oct.of_mem {zs : List Int} (h : ∀ x ∈ zs, 0 ≤ x ∧ x ≤ 255) : Oct zs := fun _ x hx => h x (List.mem_of_getElem? hx)
theorem Oct.of_wf {zs : List Int} (h : ∀ n ∈ zs, (Lit.int .u8 n).wf = true) : Oct zs := Oct.of_mem fun x hx => bounds_u8 (h x hx)

/-- What the frame of a law says of a slice of integers that came in. -/
def IsRow (k : IntKind) (w : World) (a : Option Addr) (len cap : Nat) (zs : List Int) : Prop :=
  (a = none ∧ len = 0 ∧ cap = 0 ∧ zs = []) ∨
  ∃ x, a = some x ∧ len ≤ cap ∧ cap ≤ maxLen ∧ zs.length = cap ∧ (∀ i, i < zs.length → w.cell? (x.add i) = some (.int k (zs.getD i 0))) ∧ ∀ n ∈ zs, (Lit.int k n).wf = true
theorem cell_lt {w : World} {a : Addr} {v : Value} (h : w.cell? a = some v) : a.block < w.heap.size := by
  rcases Nat.lt_or_ge a.block w.heap.size with hlt | hge
  · exact hlt
  · unfold World.cell? at h
    rw [Array.getElem?_eq_none hge] at h
    simp at h
theorem isRow_ints {k : IntKind} {w : World} {a : Option Addr} {len cap : Nat} {zs : List Int} (h : IsRow k w a len cap zs) :
    Reads w w.heap.size 1 a len ((zs.take len).map (Value.int k)) ∧ (∀ n ∈ zs.take len, (Lit.int k n).wf = true) ∧ len ≤ cap ∧ cap ≤ 9223372036854775807 := by
  rcases h with ⟨rfl, rfl, rfl, rfl⟩ | ⟨x, rfl, hl, hm, hz, hc, hw⟩
  · exact ⟨Reads.none_, by simp, Nat.le_refl _, by omega⟩
  · unfold maxLen at hm
    refine ⟨⟨by simp; omega, fun hn => ?_⟩, fun n hn => hw n (List.mem_of_mem_take hn), hl, hm⟩
    have h0 := cell_lt (hc 0 (by omega))
    rw [block_of_add] at h0
    refine ⟨x, rfl, h0, fun j u hu => ?_⟩
    simp only [List.getElem?_map, Option.map_eq_some_iff] at hu
    obtain ⟨y, hy, rfl⟩ := hu
    rw [List.getElem?_take] at hy
    split at hy
    · have hj : j < zs.length := by
        rcases Nat.lt_or_ge j zs.length with hlt | hge
        · exact hlt
        · rw [List.getElem?_eq_none hge] at hy; cases hy
      rw [hc j hj, List.getD, hy]
      rfl
    · cases hy
theorem isRow_u8 {w : World} {a : Option Addr} {len cap : Nat} {zs : List Int} (h : IsRow .u8 w a len cap zs) :
    Reads w w.heap.size 1 a len (u8s (zs.take len)) ∧ Oct (zs.take len) ∧ len ≤ cap ∧ cap ≤ 9223372036854775807 :=
  ⟨(isRow_ints h).1, Oct.of_wf (isRow_ints h).2.1, (isRow_ints h).2.2⟩

/-- Block g is just the cells cs of element type t, none frozen. -/
def Blk (w : World) (g : Nat) (t : TypeId) (cs : Array Value) : Prop := w.heap[g]? = some (.cells cs t (0, 0))

section
variable {w w' : World} {g : Nat} {t : TypeId} {cs : Array Value}
theorem Blk.lt (h : Blk w g t cs) : g < w.heap.size := by
  rcases Nat.lt_or_ge g w.heap.size with hlt | hge
  · exact hlt
  · unfold Blk at h; rw [Array.getElem?_eq_none hge] at h; cases h
theorem Blk.cell (h : Blk w g t cs) (i : Nat) : w.cell? ⟨g, i, none⟩ = cs[i]? := cell_of_row w g i cs t (0, 0) h
theorem Blk.frozen (h : Blk w g t cs) (i : Nat) : w.frozen? ⟨g, i, none⟩ = false := by
  unfold Blk at h
  simp [World.frozen?, h]
theorem Blk.new (w : World) (t : TypeId) (cs : Array Value) : Blk (w.alloc (.cells cs t)) w.heap.size t cs := heap_alloc_new w _
theorem Blk.drewN (h : Blk w g t cs) (n : Nat) : Blk (w.drewN n) g t cs := h
theorem Blk.alloc (h : Blk w g t cs) (o : Obj) : Blk (w.alloc o) g t cs := (Below.heap_alloc w o g h.lt).trans h
theorem Blk.set_ (h : Blk w g t cs) (i : Nat) (u : Value) : Blk (w.setCell ⟨g, i, none⟩ u) g t (cs.setIfInBounds i u) := by
  unfold Blk at h ⊢
  simp [World.setCell, Array.getElem?_modify, h]
theorem Blk.far (h : Blk w g t cs) {p : Addr} (hp : g ≠ p.block) (u : Value) : Blk (w.setCell p u) g t cs := (Below.heap_setCell w p u g hp).trans h
theorem Blk.below {B : Nat} (h : Blk w g t cs) (hb : Below B w w') (hg : g < B) : Blk w' g t cs := (hb.block g hg).trans h
theorem Blk.later (h : Blk w g t cs) (hb : Below w.heap.size w w') : Blk w' g t cs := h.below hb h.lt
theorem Blk.grown {row : Option Nat} (h : Blk w g t cs) (hb : w.grownBy w' row) (hg : some g ≠ row) : Blk w' g t cs := (hb.block g h.lt hg).trans h
theorem Blk.reads {xs : List Value} (h : Blk w g t xs.toArray) {n : Nat} (hn : n ≤ xs.length) : Reads w (g + 1) 1 (some ⟨g, 0, none⟩) n (xs.take n) := by
  refine ⟨by simp [hn], fun _ => ⟨_, rfl, Nat.lt_succ_self _, fun j u hu => ?_⟩⟩
  rw [add_none, Nat.zero_add, h.cell]
  rw [List.getElem?_take] at hu
  split at hu
  · simpa using hu
  · cases hu
end

/-- Block g, of cap cells, none frozen, begins with the cells xs. -/
def Row (w : World) (g : Nat) (t : TypeId) (cap : Nat) (xs : List Value) : Prop := xs.length ≤ cap ∧ ∃ cur : Array Value, Blk w g t cur ∧ cur.size = cap ∧ cur.toList.take xs.length = xs
section
variable {w w' : World} {g cap : Nat} {t : TypeId} {xs : List Value}
theorem Row.lt (h : Row w g t cap xs) : g < w.heap.size := by obtain ⟨_, cur, hb, _⟩ := h; exact hb.lt
theorem Row.cell (h : Row w g t cap xs) {i : Nat} {u : Value} (hi : xs[i]? = some u) : w.cell? ⟨g, i, none⟩ = some u := by
  obtain ⟨_, cur, hb, _, ht⟩ := h
  rw [hb.cell]
  rw [← ht, List.getElem?_take] at hi
  split at hi
  · simpa using hi
  · cases hi
theorem Row.frozen (h : Row w g t cap xs) (i : Nat) : w.frozen? ⟨g, i, none⟩ = false := by obtain ⟨_, cur, hb, _⟩ := h; exact hb.frozen i
theorem Row.reads (h : Row w g t cap xs) {n : Nat} (hn : xs.length = n) : Reads w w.heap.size 1 (some ⟨g, 0, none⟩) n xs :=
  ⟨by omega, fun _ => ⟨_, rfl, h.lt, fun j u hu => by rw [add_none, Nat.zero_add]; exact h.cell hu⟩⟩
theorem Row.set_ (h : Row w g t cap xs) (i : Nat) (u : Value) : Row (w.setCell ⟨g, i, none⟩ u) g t cap (xs.set i u) := by
  obtain ⟨hl, cur, hb, hs, ht⟩ := h
  refine ⟨by simpa using hl, cur.setIfInBounds i u, hb.set_ i u, by simpa using hs, ?_⟩
  rw [List.length_set, Array.toList_setIfInBounds, List.take_set, ht]
theorem Row.below {B : Nat} (h : Row w g t cap xs) (hb : Below B w w') (hg : g < B) : Row w' g t cap xs := by
  obtain ⟨hl, cur, hk, r⟩ := h
  exact ⟨hl, cur, hk.below hb hg, r⟩
theorem Row.later (h : Row w g t cap xs) (hb : Below w.heap.size w w') : Row w' g t cap xs := h.below hb h.lt
theorem Row.alloc (h : Row w g t cap xs) (o : Obj) : Row (w.alloc o) g t cap xs := by
  obtain ⟨hl, cur, hk, r⟩ := h
  exact ⟨hl, cur, hk.alloc o, r⟩
theorem Row.far (h : Row w g t cap xs) {p : Addr} (hp : g ≠ p.block) (u : Value) : Row (w.setCell p u) g t cap xs := by
  obtain ⟨hl, cur, hk, r⟩ := h
  exact ⟨hl, cur, hk.far hp u, r⟩
theorem Row.drewN (h : Row w g t cap xs) (n : Nat) : Row (w.drewN n) g t cap xs := h
theorem Row.of_own {base n : Nat} {v : Value} (h : w.ownsRow base t 1 v n xs) (hn : 0 < n) : ∃ g cap, v = .slice (some ⟨g, 0, none⟩) n cap ∧ base ≤ g ∧ n ≤ cap ∧ cap ≤ maxLen ∧ Row w g t cap xs := by
  obtain ⟨hl, h⟩ := h
  rcases h with ⟨_, h0⟩ | ⟨g, cap, cur, hv, hg, hb, hnc, hm, hs, ht⟩
  · omega
  · exact ⟨g, cap, hv, hg, hnc, hm, by omega, cur, hb, by omega, by rw [hl]; exact ht⟩
end

/-- A list L of cells, the first k written, behind them the zero z. -/
def Fill (z : Value) (L : List Value) (k : Nat) : Array Value := (L.take k ++ List.replicate (L.length - k) z).toArray
theorem Fill.zero (z : Value) (L : List Value) : Fill z L 0 = Array.replicate L.length z := by simp [Fill]
theorem Fill.full (z : Value) (L : List Value) {k : Nat} (h : L.length ≤ k) : Fill z L k = L.toArray := by
  unfold Fill
  rw [List.take_of_length_le h, show L.length - k = 0 by omega]
  simp
theorem Fill.at_ (z : Value) (L : List Value) {k : Nat} (h : k < L.length) : (Fill z L k)[k]? = some z := by
  unfold Fill
  simp only [List.getElem?_toArray]
  have hm : min k L.length = k := by omega
  rw [List.getElem?_append_right (by simp [hm])]
  simp [hm, List.getElem?_replicate]
  omega
theorem Fill.set (z : Value) (L : List Value) {k : Nat} {u : Value} (h : L[k]? = some u) : (Fill z L k).setIfInBounds k u = Fill z L (k + 1) := by
  have hl : k < L.length := by
    rcases Nat.lt_or_ge k L.length with hlt | hge
    · exact hlt
    · rw [List.getElem?_eq_none hge] at h; cases h
  unfold Fill
  rw [List.setIfInBounds_toArray]
  congr 1
  rw [List.set_append_right _ _ (by simp; omega)]
  have e1 : k - (L.take k).length = 0 := by rw [List.length_take]; omega
  have e2 : L.length - k = (L.length - (k + 1)) + 1 := by omega
  rw [e1, e2, List.replicate_succ, List.set_cons_zero, List.take_add_one, h]
  simp

theorem below_drewN {B : Nat} {a w : World} (h : Below B a w) (n : Nat) : Below B a (w.drewN n) := ⟨h.os, h.tape, h.output, h.size, h.block⟩
theorem below_of_drewN (B : Nat) (w : World) (n : Nat) : Below B w (w.drewN n) := ⟨rfl, rfl, rfl, Nat.le_refl _, fun _ _ => rfl⟩
/-- A call that only reads, told as one that leaves old memory alone (the world behind it is then a name). -/
theorem toBelow {P : Program} {f : FuncId} {args : Array Value} {w : World} {v : Value} (h : Calls P f args w fun e w' => e = .returned v ∧ ∃ k, w' = w.drewN k) :
    Calls P f args w fun e w' => e = .returned v ∧ Below w.heap.size w w' :=
  h.mono fun _ _ ⟨he, k, hk⟩ => ⟨he, by rw [hk]; exact below_of_drewN _ _ k⟩
theorem toBelow0 {P : Program} {f : FuncId} {args : Array Value} {w : World} {v : Value} (h : Calls P f args w fun e w' => e = .returned v ∧ w' = w) :
    Calls P f args w fun e w' => e = .returned v ∧ Below w.heap.size w w' :=
  h.mono fun _ _ ⟨he, hk⟩ => ⟨he, by rw [hk]; exact Below.refl _ _⟩

/-- What is asked of a slice type t with elements e of 'size' cells and 'bytes' bytes. -/
structure El (P : Program) (t e : TypeId) (size bytes : Nat) : Prop where
  ht : P.underlying t = some (.slice e)
  info : ∃ i z, P.info? e = some i ∧ i.zero = some z ∧ i.size = size ∧ i.bytes = bytes ∧ z.cells.size = size
  pos : 0 < size

theorem El.mk' {P : Program} {t e : TypeId} {z : Value} {size bytes : Nat} (ht : P.underlying t = some (.slice e)) (hi : (P.info? e).map (fun i => (i.zero, i.size, i.bytes)) = some (some z, size, bytes)) (hz : z.cells.size = size) (hp : 0 < size) : El P t e size bytes := by
  obtain ⟨i, h, hzz⟩ := Option.map_eq_some_iff.1 hi
  simp only [Prod.mk.injEq] at hzz
  exact ⟨ht, ⟨i, z, h, hzz.1, hzz.2.1, hzz.2.2, hz⟩, hp⟩

theorem run_append_nil {P : Program} (w : World) {base : Nat} {t ty e : TypeId} {i : TypeInfo} {size : Nat} (ht : P.underlying t = some (.slice e)) (hi : P.info? e = some i)
    {v : Value} {n : Nat} {xs : List Value} (hown : w.ownsRow base e size v n xs) (c : Nat) : (Builtin.append_ #[t, t] ty #[v, .slice none 0 c]).run P w = .ok v w := by
  rcases hown.2 with ⟨rfl, rfl⟩ | ⟨g, cap, cur, rfl, _, _, hnc, _⟩
  · simp [Builtin.append_, run_underlying ht, sizeOf, typeInfo, hi, Builtin.lenOf, Builtin.firstCells]
  · simp [Builtin.append_, run_underlying ht, sizeOf, typeInfo, hi, Builtin.lenOf, Builtin.firstCells, hnc, storeCells]

theorem run_app {P : Program} {w : World} {t e : TypeId} {size bytes : Nat} (E : El P t e size bytes) (ty : TypeId) {base : Nat} {v : Value} {n : Nat} {xs : List Value} (hown : w.ownsRow base e size v n xs)
    {B : Nat} {A : Option Addr} {m : Nat} (c : Nat) {news : List Value} (hr : Reads w B size A m news) (h1 : ∀ u ∈ news, u.oneCell' = true)
    (h63 : n + m ≤ maxLen) (hbytes : (n + m) * bytes ≤ 140737488355328) (hbase : base ≤ w.heap.size) :
    ∃ v' w', (Builtin.append_ #[t, t] ty #[v, .slice A m c]).run P w = .ok v' w' ∧ w'.ownsRow base e size v' (n + m) (xs ++ news) ∧ w.grownBy w' v.ownBlock ∧
      (v'.ownBlock = v.ownBlock ∨ v'.ownBlock = some w.heap.size) := by
  obtain ⟨i, z, hi, hz, hsize, hby, hzs⟩ := E.info
  rcases A with _ | ad
  · have hm : m = 0 := by
      rcases Nat.eq_zero_or_pos m with h0 | h0
      · exact h0
      · obtain ⟨ad, h, _⟩ := hr.2 h0
        cases h
    subst hm
    have hn : news = [] := List.eq_nil_of_length_eq_zero (by simpa using hr.1)
    subst hn
    exact ⟨v, w, run_append_nil w E.ht hi hown c, by simpa using hown, World.grownBy.refl w _, .inl rfl⟩
  · have hcells : ∀ j u, news[j]? = some u → w.cell? (ad.add j) = some u := by
      intro j u hu
      rcases Nat.eq_zero_or_pos m with h0 | h0
      · subst h0
        have hn : news = [] := List.eq_nil_of_length_eq_zero (by simpa using hr.1)
        subst hn
        simp at hu
      · obtain ⟨ad', h, _, hc⟩ := hr.2 h0
        injection h with h
        subst h
        exact hc j u hu
    obtain ⟨v', w', hrun, h2, h3, _, h5⟩ := run_append_own_at (P := P) w base t ty e i z size bytes E.ht hi hz hsize hby hzs E.pos v n xs hown ad m c news hr.1 hcells h1 h63 hbytes hbase
    exact ⟨v', w', hrun, h2, h3, h5⟩

theorem below_of_own {w w' : World} {base size n : Nat} {e : TypeId} {v : Value} {xs : List Value} (hown : w.ownsRow base e size v n xs) (hg : w.grownBy w' v.ownBlock) (hb : base ≤ w.heap.size) : Below base w w' :=
  (Below.refl _ _).grown hg hb fun k hk => (hown.lt k hk).1

/-- 's = append(s, xs...)' onto a row of the call's own, the source nil, empty or not. -/
theorem wpList_app {P : Program} {ops : Array Oper} {rest : List Oper} {o : Oper} {a : Act} {Q : Exit → Act → World → Prop} {w : World} {t e : TypeId} {size bytes : Nat} (E : El P t e size bytes)
    (hgd : o.guard = none) (s x : Operand) (ho : o.op = .call { callee := .builtin .append, args := #[s, x], argTypes := #[t, t] })
    {base : Nat} {v : Value} {n : Nat} {xs : List Value} (hown : w.ownsRow base e size v n xs) (hs : a.eval s = v)
    {B : Nat} {A : Option Addr} {m c : Nat} {news : List Value} (hr : Reads w B size A m news) (hx : a.eval x = .slice A m c) (h1 : ∀ u ∈ news, u.oneCell' = true)
    (h63 : n + m ≤ maxLen) (hbytes : (n + m) * bytes ≤ 140737488355328) (hbase : base ≤ w.heap.size)
    (h : ∀ v' w', w'.ownsRow base e size v' (n + m) (xs ++ news) → Below base w w' → w.grownBy w' v.ownBlock → (v'.ownBlock = v.ownBlock ∨ v'.ownBlock = some w.heap.size) → wpList P ops Q rest (a.put o.dst v') w') :
    wpList P ops Q (o :: rest) a w := by
  obtain ⟨v', w', hrun, h2, h3, h4⟩ := run_app E o.type hown c hr h1 h63 hbytes hbase
  refine wpList_plain hgd fun K hK => ?_
  unfold Oper.wp execOp
  simp only [ho, resolve, invoke, builtin, Sem.run_bind, Sem.run_pure, Result.andThen_ok, List.map_toArray, List.map_cons, List.map_nil, hs, hx, hrun]
  exact hK _ _ (h v' w' h2 (below_of_own hown h3 hbase) h3 h4)

theorem Reads.lit (w : World) (xs : List Value) (t : TypeId) {n : Nat} (hn : xs.length = n) : Reads (w.alloc (.cells xs.toArray t)) (w.heap.size + 1) 1 (some ⟨w.heap.size, 0, none⟩) n xs := by
  have h := (Blk.new w t xs.toArray).reads (n := n) (by omega)
  rwa [List.take_of_length_le (by omega)] at h
theorem Reads.lit_ (w : World) (xs : List Value) (t : TypeId) {n : Nat} (hn : xs.length = n) : Reads (w.alloc (.cells xs.toArray t)) (w.alloc (.cells xs.toArray t)).heap.size 1 (some ⟨w.heap.size, 0, none⟩) n xs := by
  rw [World.size_alloc]
  exact Reads.lit w xs t hn
/-- A new block, then a call that leaves old memory alone. -/
theorem below_lit {a w w' : World} (h : Below a.heap.size a w) (o : Obj) (hc : Below (w.alloc o).heap.size (w.alloc o) w') : Below a.heap.size a w' :=
  (h.alloc h.size o).trans (hc.mono (by rw [World.size_alloc]; have := h.size; omega))
theorem below_then {a w w' : World} (h : Below a.heap.size a w) (hc : Below w.heap.size w w') : Below a.heap.size a w' := h.trans (hc.mono h.size)
theorem Reads.one_new (w : World) (x : Value) (t : TypeId) : Reads (w.alloc (.cells #[x] t)) (w.heap.size + 1) 1 (some ⟨w.heap.size, 0, none⟩) 1 [x] :=
  ⟨rfl, fun _ => ⟨_, rfl, Nat.lt_succ_self _, cell_one_new _ _ _⟩⟩

theorem bcell {W w1 : World} (hb : Below W.heap.size W w1) : (∀ b o, b < W.heap.size → w1.cell? ⟨b, o, none⟩ = W.cell? ⟨b, o, none⟩) ∧ (∀ b o, b < W.heap.size → w1.frozen? ⟨b, o, none⟩ = W.frozen? ⟨b, o, none⟩) :=
  ⟨fun b o h => hb.cell (p := ⟨b, o, none⟩) h, fun b o h => hb.frozen (p := ⟨b, o, none⟩) h⟩
end Go.Proofs.YtpncbggjngamgaaGreatDoor
namespace Go.Proofs.YtpncbggjngamgaaGreatDoor
set_option linter.unusedVariables false
open Go.RowKit

theorem u8s_set (l : List Int) (i : Nat) (v : Int) : (u8s l).set i (.int .u8 v) = u8s (l.set i v) := by
  simp [u8s, List.map_set]
/-- A store of a byte into a row of bytes. -/
theorem Row.u8set {w : World} {g cap : Nat} {t : TypeId} {l : List Int} (h : Row w g t cap (u8s l)) (i : Nat) (v : Int) : Row (w.setCell ⟨g, i, none⟩ (.int .u8 v)) g t cap (u8s (l.set i v)) := by
  have := h.set_ i (.int .u8 v)
  rwa [u8s_set] at this
theorem Row.u8cell {w : World} {g cap : Nat} {t : TypeId} {l : List Int} (h : Row w g t cap (u8s l)) {i : Nat} (hi : i < l.length) : ∃ x, Hid (l[i]? = some x) ∧ w.cell? ⟨g, i, none⟩ = some (.int .u8 x) :=
  ⟨l[i], List.getElem?_eq_getElem hi, h.cell (u8s_get_of (List.getElem?_eq_getElem hi))⟩
theorem Row.u8reads {w : World} {g cap n : Nat} {t : TypeId} {l : List Int} (h : Row w g t cap (u8s l)) (hl : l.length = n) : Reads w w.heap.size 1 (some ⟨g, 0, none⟩) n (u8s l) :=
  h.reads (by rw [u8s_length]; exact hl)
theorem below_drew_left {w w' : World} (h : Below w.drew.heap.size w.drew w') : Below w.heap.size w w' := ⟨h.os, h.tape, h.output, h.size, h.block⟩
/-- A quiet call behind a quiet region (the world is 'w.drewN a' there). -/
theorem quiet_add {P : Program} {f : FuncId} {args : Array Value} {w : World} {a n : Nat} {v : Value}
    (h : Calls P f args (w.drewN (a + n)) fun e w' => e = .returned v ∧ ∃ m, w' = (w.drewN (a + n)).drewN m) :
    Calls P f args (w.drewN (a + n)) fun e w'' => e = .returned v ∧ ∃ m, w'' = w.drewN (a + m) :=
  h.mono fun _ _ ⟨he, m, hm⟩ => ⟨he, n + m, by rw [hm, World.drewN_drewN, Nat.add_assoc]⟩
theorem quiet_add_same {P : Program} {f : FuncId} {args : Array Value} {w : World} {a n : Nat} {v : Value}
    (h : Calls P f args (w.drewN (a + n)) fun e w' => e = .returned v ∧ w' = w.drewN (a + n)) :
    Calls P f args (w.drewN (a + n)) fun e w'' => e = .returned v ∧ ∃ m, w'' = w.drewN (a + m) :=
  h.mono fun _ _ ⟨he, hm⟩ => ⟨he, n, hm⟩
theorem Blk.setRow {w : World} {g : Nat} {t : TypeId} {cs : Array Value} (h : Blk w g t cs) (cs' : Array Value) : Blk (w.setRow g cs') g t cs' := by
  unfold Blk at h ⊢
  simp [World.setRow, Array.getElem?_modify, h]
theorem below_setRow {B : Nat} {a w : World} (h : Below B a w) {g : Nat} (hg : B ≤ g) (cs : Array Value) : Below B a (w.setRow g cs) :=
  h.trans ⟨rfl, rfl, rfl, by simp [World.setRow], fun k hk => by
    simp only [World.setRow, Array.getElem?_modify]
    rw [if_neg (by omega)]⟩
theorem run_makeN {P : Program} {t e : TypeId} {z : Value} {bytes : Nat} (ht : P.underlying t = some (.slice e)) (hi : (P.info? e).map (fun i => (i.zero, i.size, i.bytes)) = some (some z, 1, bytes)) (hz : z.cells = #[z])
    (kl kc : IntKind) (n c : Nat) (hnc : n ≤ c) (hbytes : bytes * c ≤ 281474976710656) (h63 : c ≤ 9223372036854775807) (w : World) :
    (Instr.makeSlice t (.int kl (n : Int)) (.int kc (c : Int))).run P w = .ok (.slice (some ⟨w.heap.size, 0, none⟩) n c) (w.alloc (.cells (madeCells #[z] c) e)) := by
  obtain ⟨i, hi, hzz⟩ := Option.map_eq_some_iff.1 hi
  simp only [Prod.mk.injEq] at hzz
  obtain ⟨hz1, hs, hb⟩ := hzz
  have hb' : (i.bytes : Int) * (c : Int) ≤ 281474976710656 := by
    have h : ((i.bytes * c : Nat) : Int) ≤ 281474976710656 := by rw [hb]; omega
    rwa [Int.natCast_mul] at h
  have hr := run_make (P := P) w t e i z ht hi hz1 kl kc n c (by omega) (by omega) hb' (by omega)
  simp only [Int.toNat_natCast, hs, Nat.mul_one, hz] at hr
  exact hr
theorem madeCells_size (z : Value) (c : Nat) : (madeCells #[z] c).size = c := by simp [madeCells]
theorem only_setRow (w : World) (g : Nat) (cs : Array Value) : w.grownBy (w.setRow g cs) (some g) :=
  ⟨rfl, rfl, rfl, by simp [World.setRow], fun i _ hne => by
    simp only [World.setRow, Array.getElem?_modify]
    rw [if_neg (fun e => hne (by rw [e]))]⟩
theorem Blk.setRow_far {w : World} {g g' : Nat} {t : TypeId} {cs : Array Value} (h : Blk w g t cs) (hne : g ≠ g') (cs' : Array Value) : Blk (w.setRow g' cs') g t cs := by
  unfold Blk at h ⊢
  simp only [World.setRow, Array.getElem?_modify]
  rw [if_neg (by omega)]
  exact h
theorem Row.setRow_far {w : World} {g g' cap : Nat} {t : TypeId} {xs : List Value} (h : Row w g t cap xs) (hne : g ≠ g') (cs' : Array Value) : Row (w.setRow g' cs') g t cap xs := by
  obtain ⟨hl, cur, hk, r⟩ := h
  exact ⟨hl, cur, hk.setRow_far hne cs', r⟩
theorem row_of_own {w : World} {base n g cap : Nat} {t : TypeId} {xs : List Value} (h : w.ownsRow base t 1 (.slice (some ⟨g, 0, none⟩) n cap) n xs) : Row w g t cap xs ∧ base ≤ g ∧ n ≤ cap ∧ cap ≤ 9223372036854775807 := by
  obtain ⟨hl, h⟩ := h
  rcases h with ⟨hv, _⟩ | ⟨g', cap', cur, hv, hg, hb, hnc, hm, hs, ht⟩
  · cases hv
  · injection hv with h1 _ h3
    injection h1 with h1
    injection h1 with h1
    subst h1 h3
    unfold maxLen at hm
    exact ⟨⟨by omega, cur, hb, by omega, by rw [hl]; exact ht⟩, hg, hnc, hm⟩
/-- A slice's length in a slot: for a loop's measure (a 'match' in place is split by the walk). -/
def lenOf : Value → Nat | .slice _ n _ => n | _ => 0
end Go.Proofs.YtpncbggjngamgaaGreatDoor
namespace Go.Proofs.YtpncbggjngamgaaGreatDoor
set_option linter.unusedVariables false
open Go.RowKit

/-- w' is w, but for the blocks of S and new ones. -/
structure Kept (S : Nat → Prop) (w w' : World) : Prop where
  os : w'.os = w.os
  tape : w'.tape = w.tape
  output : w'.output = w.output
  size : w.heap.size ≤ w'.heap.size
  block : ∀ i, i < w.heap.size → ¬ S i → w'.heap[i]? = w.heap[i]?

section
variable {S T : Nat → Prop} {w w' w'' : World}
theorem Kept.refl (S : Nat → Prop) (w : World) : Kept S w w := ⟨rfl, rfl, rfl, Nat.le_refl _, fun _ _ _ => rfl⟩
theorem Kept.trans (h : Kept S w w') (k : Kept T w' w'') (hT : ∀ i, i < w.heap.size → T i → S i) : Kept S w w'' :=
  ⟨k.os.trans h.os, k.tape.trans h.tape, k.output.trans h.output, Nat.le_trans h.size k.size, fun i hi hn => (k.block i (Nat.lt_of_lt_of_le hi h.size) (fun ht => hn (hT i hi ht))).trans (h.block i hi hn)⟩
theorem Kept.mono (h : Kept S w w') (hT : ∀ i, i < w.heap.size → S i → T i) : Kept T w w' := ⟨h.os, h.tape, h.output, h.size, fun i hi hn => h.block i hi fun hs => hn (hT i hi hs)⟩
theorem Kept.drew (h : Kept S w w') : Kept S w w'.drew := ⟨h.os, h.tape, h.output, h.size, h.block⟩
theorem Kept.drewN (h : Kept S w w') (n : Nat) : Kept S w (w'.drewN n) := ⟨h.os, h.tape, h.output, h.size, h.block⟩
theorem Kept.of_new (h : Below w.heap.size w w') (S : Nat → Prop) : Kept S w w' := ⟨h.os, h.tape, h.output, h.size, fun i hi _ => h.block i hi⟩
theorem Kept.of_grown {row : Option Nat} (h : w.grownBy w' row) : Kept (fun i => row = some i) w w' := ⟨h.os, h.tape, h.output, h.size, fun i hi hn => h.block i hi (fun e => hn e.symm)⟩
theorem Kept.setCell (h : Kept S w w') {p : Addr} (hp : p.block < w.heap.size → S p.block) (u : Value) : Kept S w (w'.setCell p u) :=
  ⟨h.os, h.tape, h.output, by simpa [World.setCell] using h.size, fun i hi hn => (Below.heap_setCell w' p u i (by rintro rfl; exact hn (hp hi))).trans (h.block i hi hn)⟩
theorem Kept.alloc (h : Kept S w w') (o : Obj) : Kept S w (w'.alloc o) :=
  ⟨h.os, h.tape, h.output, Nat.le_trans h.size (by simp), fun i hi hn => (Below.heap_alloc w' o i (Nat.lt_of_lt_of_le hi h.size)).trans (h.block i hi hn)⟩
theorem Kept.below {B : Nat} (h : Kept S w w') (hS : ∀ i, S i → B ≤ i) (hB : B ≤ w.heap.size) : Below B w w' := ⟨h.os, h.tape, h.output, h.size, fun i hi => h.block i (by omega) fun hs => by have := hS i hs; omega⟩
theorem Blk.kept {g : Nat} {t : TypeId} {cs : Array Value} (h : Blk w g t cs) (k : Kept S w w') (hn : ¬ S g) : Blk w' g t cs := (k.block g h.lt hn).trans h
theorem Reads.kept {B size n : Nat} {A : Option Addr} {xs : List Value} (h : Reads w B size A n xs) (hB : B ≤ w.heap.size) (k : Kept S w w') (hn : 0 < n → ∀ ad, A = some ad → ¬ S ad.block) : Reads w' B size A n xs :=
  ⟨h.1, fun h0 => by
    obtain ⟨ad, e, hb, hc⟩ := h.2 h0
    refine ⟨ad, e, hb, fun j u hu => ?_⟩
    rw [← hc j u hu]
    refine World.cell?_of_block ?_
    rw [block_of_add]
    exact k.block ad.block (by omega) (hn h0 ad e)⟩
theorem Reads.keptUp {size n : Nat} {A : Option Addr} {xs : List Value} (h : Reads w w.heap.size size A n xs) (k : Kept S w w') (hn : 0 < n → ∀ ad, A = some ad → ¬ S ad.block) : Reads w' w'.heap.size size A n xs := (h.kept (Nat.le_refl _) k hn).more k.size
theorem own_kept {base size n : Nat} {e : TypeId} {v : Value} {xs : List Value} (h : w.ownsRow base e size v n xs) (k : Kept S w w') (hn : ∀ i, v.ownBlock = some i → ¬ S i) : w'.ownsRow base e size v n xs := by
  refine ⟨h.1, ?_⟩
  rcases h.2 with h1 | ⟨g, cap, cur, hv, hg, hk, r⟩
  · exact .inl h1
  · have hlt : g < w.heap.size := (show Blk w g e cur from hk).lt
    exact .inr ⟨g, cap, cur, hv, hg, (k.block g hlt (hn g (by rw [hv]; rfl))).trans hk, r⟩
theorem own_mono {base b' size n : Nat} {e : TypeId} {v : Value} {xs : List Value} (h : w.ownsRow base e size v n xs) (hb : b' ≤ base) : w.ownsRow b' e size v n xs := by
  refine ⟨h.1, ?_⟩
  rcases h.2 with h1 | ⟨g, cap, cur, hv, hg, r⟩
  · exact .inl h1
  · exact .inr ⟨g, cap, cur, hv, by omega, r⟩
theorem own_ge {base size n i : Nat} {e : TypeId} {v : Value} {xs : List Value} (h : w.ownsRow base e size v n xs) (hi : v.ownBlock = some i) : base ≤ i ∧ i < w.heap.size := by
  rcases h.2 with ⟨rfl, _⟩ | ⟨g, cap, cur, rfl, hg, hk, _⟩
  · simp [Value.ownBlock] at hi
  · have : g = i := by simpa [Value.ownBlock] using hi
    subst this
    exact ⟨hg, (show Blk w g e cur from hk).lt⟩
theorem own_blk_ne {base size n : Nat} {e t : TypeId} {v : Value} {xs : List Value} {g : Nat} {cs : Array Value} (h : w.ownsRow base e size v n xs) (hg : Blk w g t cs) (hne : e ≠ t) : v.ownBlock ≠ some g := by
  rcases h.2 with ⟨rfl, _⟩ | ⟨g', cap, cur, rfl, _, hh, _⟩
  · simp [Value.ownBlock]
  · intro he
    have : g' = g := by simpa [Value.ownBlock] using he
    subst this
    unfold Blk at hg
    rw [hh] at hg
    injection hg with hg
    injection hg with _ ht
    exact hne ht
theorem own_setCell {base size n i : Nat} {e t : TypeId} {v : Value} {xs : List Value} {g : Nat} {cs : Array Value} (h : w.ownsRow base e size v n xs) (hg : Blk w g t cs) (hne : e ≠ t) (u : Value) : (w.setCell ⟨g, i, none⟩ u).ownsRow base e size v n xs :=
  own_kept (S := fun j => j = g) h ((Kept.refl (fun j => j = g) w).setCell (p := ⟨g, i, none⟩) (fun _ => rfl) u) (fun j hj hs => own_blk_ne h hg hne (by rw [hj, hs]))
theorem own_shape {base n : Nat} {e : TypeId} {v : Value} {xs : List Value} (h : w.ownsRow base e 1 v n xs) : ∃ A c, v = .slice A n c ∧ n ≤ c ∧ c ≤ 9223372036854775807 ∧ Reads w w.heap.size 1 A n xs := by
  have hh := h
  rcases h.2 with ⟨rfl, rfl⟩ | ⟨g', cap, cur, rfl, _, hk, hc, hm, _⟩
  · exact ⟨none, 0, rfl, Nat.le_refl _, by omega, Reads.of_own hh⟩
  · exact ⟨some ⟨g', 0, none⟩, cap, rfl, hc, by unfold maxLen at hm; exact hm, Reads.of_own hh⟩
theorem Reads.ne_blk {B size n g : Nat} {A : Option Addr} {xs : List Value} (h : Reads w B size A n xs) (hg : B ≤ g) : 0 < n → ∀ ad, A = some ad → ad.block ≠ g := by
  intro h0 ad e
  obtain ⟨ad', e', hb, _⟩ := h.2 h0
  rw [e] at e'
  injection e' with e'
  subst e'
  omega
end
end Go.Proofs.YtpncbggjngamgaaGreatDoor
namespace Go.Proofs.YtpncbggjngamgaaGreatDoor
set_option linter.unusedVariables false
set_option linter.unusedSectionVars false
open Go.RowKit

/-- Keys of type K are the values 'enc a'. -/
structure KeyT (P : Program) (K : TypeId) {κ : Type} [DecidableEq κ] (enc : κ → Value) : Prop where
  eq : ∀ (a b : κ) (w : World), (Op.equal K (enc a) (enc b)).run P w = .ok (decide (a = b)) w
  check : ∀ (e : Bool) (a : κ) (w : World), (Instr.checkKey e 10000 K (enc a)).run P w = .ok () w
  now : ∃ d, P.underlying K = some d ∧ ((∀ a b : κ, Instr.sameNow d (enc a) (enc b) = none) ∨ ∀ a b : κ, Instr.sameNow d (enc a) (enc b) = some (decide (a = b)))
  bits : ∀ a : κ, Instr.sameBits 10000 (enc a) (enc a) = true

section
variable {P : Program} {K : TypeId} {κ : Type} [DecidableEq κ] {enc : κ → Value}

/-- The first entry at a key: its place and its element. -/
def findL : List (κ × Value) → κ → Nat → Option (Nat × Value)
  | [], _, _ => none
  | p :: r, a, i => if a = p.1 then some (i, p.2) else findL r a (i + 1)
theorem findL_none {L : List (κ × Value)} {a : κ} : ∀ i, findL L a i = none ↔ ∀ p ∈ L, p.1 ≠ a := by
  induction L with
  | nil => intro i; simp [findL]
  | cons p r ih =>
    intro i
    unfold findL
    by_cases h : a = p.1
    · rw [if_pos h]; simp [h]
    · rw [if_neg h, ih]
      constructor
      · intro h1 q hq
        rcases List.mem_cons.1 hq with rfl | hq
        · exact fun e => h e.symm
        · exact h1 q hq
      · exact fun h1 q hq => h1 q (List.mem_cons_of_mem _ hq)
theorem findL_some {L : List (κ × Value)} {a : κ} {j : Nat} {v : Value} : ∀ i, findL L a i = some (j, v) → ∃ k, j = i + k ∧ L[k]? = some (a, v) := by
  induction L with
  | nil => intro i h; simp [findL] at h
  | cons p r ih =>
    intro i h
    unfold findL at h
    split at h
    · rename_i e
      injection h with h
      injection h with h1 h2
      exact ⟨0, by omega, by rw [e, ← h2]; rfl⟩
    · obtain ⟨k, h1, h2⟩ := ih _ h
      exact ⟨k + 1, by omega, by simpa using h2⟩

def entriesOf (enc : κ → Value) (es : List MapEntry) (L : List (κ × Value)) : Prop := es.map (fun e => (e.key, e.val)) = L.map fun p => (enc p.1, p.2)
theorem entriesOf.cons {e : MapEntry} {es : List MapEntry} {p : κ × Value} {L : List (κ × Value)} (h : entriesOf enc (e :: es) (p :: L)) : e.key = enc p.1 ∧ e.val = p.2 ∧ entriesOf enc es L := by
  unfold entriesOf at h
  simp only [List.map_cons, List.cons.injEq, Prod.mk.injEq] at h
  exact ⟨h.1.1, h.1.2, h.2⟩

theorem run_findAsking (T : KeyT P K enc) (a : κ) (w : World) : ∀ (L : List (κ × Value)) (es : List MapEntry) (i : Nat), entriesOf enc es L → (Instr.findAsking K (enc a) es i).run P w = .ok (findL L a i) w := by
  intro L
  induction L with
  | nil =>
    intro es i h
    have : es = [] := by simpa [entriesOf] using h
    subst this
    rfl
  | cons p r ih =>
    intro es i h
    cases es with
    | nil => simp [entriesOf] at h
    | cons e es =>
      obtain ⟨h1, h2, h3⟩ := h.cons
      unfold Instr.findAsking findL
      simp only [Sem.run_bind, h1, T.eq, Result.andThen_ok]
      by_cases hp : a = p.1
      · simp only [hp, decide_true, if_true, h2]
        rfl
      · simp only [hp, decide_false, Bool.false_eq_true, if_false]
        exact ih es (i + 1) h3
theorem findNow_all {d : TypeDesc} (hd : ∀ a b : κ, Instr.sameNow d (enc a) (enc b) = some (decide (a = b))) (a : κ) : ∀ (L : List (κ × Value)) (es : List MapEntry) (i : Nat), entriesOf enc es L → Instr.findNow d (enc a) es i = some (findL L a i) := by
  intro L
  induction L with
  | nil =>
    intro es i h
    have : es = [] := by simpa [entriesOf] using h
    subst this
    rfl
  | cons p r ih =>
    intro es i h
    cases es with
    | nil => simp [entriesOf] at h
    | cons e es =>
      obtain ⟨h1, h2, h3⟩ := h.cons
      unfold Instr.findNow findL
      rw [h1, hd]
      by_cases hp : a = p.1
      · simp [hp, h2]
      · simp only [hp, decide_false, if_false]
        exact ih es (i + 1) h3
theorem run_findKeyL (T : KeyT P K enc) (a : κ) (w : World) (L : List (κ × Value)) (es : List MapEntry) (h : entriesOf enc es L) : (Instr.findKey K (enc a) es).run P w = .ok (findL L a 0) w := by
  obtain ⟨d, hd, hn⟩ := T.now
  unfold Instr.findKey
  simp only [Sem.run_bind, run_underlying hd, Result.andThen_ok]
  rcases hn with hn | hn
  · cases es with
    | nil =>
      cases L with
      | nil => rfl
      | cons p r => simp [entriesOf] at h
    | cons e es =>
      cases L with
      | nil => simp [entriesOf] at h
      | cons p r =>
        have : Instr.findNow d (enc a) (e :: es) 0 = none := by
          unfold Instr.findNow
          rw [h.cons.1, hn]
        rw [this]
        exact run_findAsking T a w (p :: r) (e :: es) 0 h
  · rw [findNow_all hn a L es 0 h]
    rfl

/-- Block b is a map with the entries L, in this order. -/
def MapL (enc : κ → Value) (w : World) (b : Nat) (L : List (κ × Value)) : Prop := ∃ es clock, w.heap[b]? = some (.map es clock) ∧ entriesOf enc es.toList L
theorem MapL.lt {w : World} {b : Nat} {L : List (κ × Value)} (h : MapL enc w b L) : b < w.heap.size := by
  obtain ⟨es, c, h, _⟩ := h
  rcases Nat.lt_or_ge b w.heap.size with h' | h'
  · exact h'
  · rw [Array.getElem?_eq_none h'] at h; cases h
theorem MapL.kept {S : Nat → Prop} {w w' : World} {b : Nat} {L : List (κ × Value)} (h : MapL enc w b L) (k : Kept S w w') (hn : ¬ S b) : MapL enc w' b L := by
  have hlt := h.lt
  obtain ⟨es, c, h1, h2⟩ := h
  exact ⟨es, c, (k.block b hlt hn).trans h1, h2⟩
theorem MapL.later {w w' : World} {b : Nat} {L : List (κ × Value)} (h : MapL enc w b L) (hb : Below w.heap.size w w') : MapL enc w' b L :=
  h.kept (Kept.of_new hb (fun _ => False)) (fun h => h)
theorem MapL.drewN {w : World} {b : Nat} {L : List (κ × Value)} (h : MapL enc w b L) (n : Nat) : MapL enc (w.drewN n) b L := h
theorem MapL.new (enc : κ → Value) (w : World) : MapL enc (w.alloc (.map #[] 0)) w.heap.size [] := ⟨#[], 0, heap_alloc_new w _, rfl⟩
theorem MapL.ne_blk {w : World} {b g : Nat} {t : TypeId} {cs : Array Value} {L : List (κ × Value)} (h : MapL enc w b L) (hg : Blk w g t cs) : b ≠ g := by
  rintro rfl
  obtain ⟨es, c, h1, _⟩ := h
  unfold Blk at hg
  rw [hg] at h1
  cases h1
theorem own_ne_map {w : World} {b base size n : Nat} {e : TypeId} {v : Value} {xs : List Value} {L : List (κ × Value)} (h : MapL enc w b L) (ho : w.ownsRow base e size v n xs) : v.ownBlock ≠ some b := by
  rcases ho.2 with ⟨rfl, _⟩ | ⟨g', cap, cur, rfl, _, hh, _⟩
  · simp [Value.ownBlock]
  · intro he
    have : g' = b := by simpa [Value.ownBlock] using he
    subst this
    exact h.ne_blk (t := e) hh rfl

/-- The world with another object in block b. -/
def _root_.Go.World.putMap (w : World) (b : Nat) (o : Obj) : World := { w with heap := w.heap.setIfInBounds b o }
theorem kept_putMap (w : World) (b : Nat) (o : Obj) : Kept (fun i => i = b) w (w.putMap b o) :=
  ⟨rfl, rfl, rfl, by simp [World.putMap], fun i hi hn => by simp [World.putMap, Ne.symm hn]⟩
theorem heap_putMap {w : World} {b : Nat} (h : b < w.heap.size) (o : Obj) : (w.putMap b o).heap[b]? = some o := by simp [World.putMap, h]

theorem run_getMap {w : World} {b : Nat} {es : Array MapEntry} {c : Nat} (h : w.heap[b]? = some (.map es c)) : (getObj b).run P w = .ok (.map es c) w := by
  simp [getObj, Sem.run, h]
theorem run_setMap {w : World} {b : Nat} {es : Array MapEntry} {c : Nat} (h : w.heap[b]? = some (.map es c)) (o : Obj) : (setObj b o).run P w = .ok () (w.putMap b o) := by
  simp [setObj, Sem.run, h, World.putMap]

variable {T E : TypeId} {w : World} {b : Nat} {L : List (κ × Value)} {a : κ}
def lookedUp (L : List (κ × Value)) (a : κ) (z : Value) (ok : Bool) : Value :=
  match findL L a 0 with
  | some (_, v) => if ok then .tuple #[v, .bool true] else v
  | none => if ok then .tuple #[z, .bool false] else z
theorem run_lookupL (Q : KeyT P K enc) (hT : P.underlying T = some (.map K E)) {z : Value} (hz : (zeroValue E).run P w = .ok z w) (h : MapL enc w b L) (a : κ) (ok : Bool) :
    (Instr.lookup T (.map (some b)) (enc a) ok).run P w = .ok (lookedUp L a z ok) w := by
  obtain ⟨es, c, h1, h2⟩ := h
  unfold Instr.lookup lookedUp
  simp only [Sem.run_bind, run_underlying hT, Result.andThen_ok, run_getMap h1, Sem.run_pure, Q.check, run_findKeyL Q a w L es.toList h2]
  rcases hf : findL L a 0 with _ | ⟨i, v⟩
  · simp only [Sem.run_bind, hz, Result.andThen_ok, Sem.run_pure]
  · simp only [Sem.run_bind, Result.andThen_ok, Sem.run_pure]
theorem entriesOf.get {es : List MapEntry} {L : List (κ × Value)} (h : entriesOf enc es L) {i : Nat} {p : κ × Value} (hp : L[i]? = some p) : ∃ e, es[i]? = some e ∧ e.key = enc p.1 ∧ e.val = p.2 := by
  have := congrArg (fun l => l[i]?) h
  simp only [List.getElem?_map, hp, Option.map_some] at this
  rcases he : es[i]? with _ | e
  · simp [he] at this
  · simp only [he, Option.map_some, Option.some.injEq, Prod.mk.injEq] at this
    exact ⟨e, rfl, this.1, this.2⟩
theorem map_eraseIdx {α β : Type} (f : α → β) : ∀ (l : List α) (i : Nat), (l.eraseIdx i).map f = (l.map f).eraseIdx i
  | [], _ => rfl
  | _ :: _, 0 => rfl
  | x :: l, i + 1 => by simp [map_eraseIdx f l i]
/-- A store at a key that is not there: a new entry behind the others. -/
theorem run_storeL_new (Q : KeyT P K enc) (hT : P.underlying T = some (.map K E)) (h : MapL enc w b L) (hf : findL L a 0 = none) (v : Value) :
    ∃ w', (Instr.mapUpdate T (.map (some b)) (enc a) v).run P w = .ok () w' ∧ MapL enc w' b (L ++ [(a, v)]) ∧ Kept (fun i => i = b) w w' := by
  have hlt := h.lt
  obtain ⟨es, c, h1, h2⟩ := h
  refine ⟨w.putMap b (.map (es.push { key := enc a, val := v, born := c }) (c + 1)), ?_, ⟨_, _, heap_putMap hlt _, ?_⟩, kept_putMap _ _ _⟩
  · unfold Instr.mapUpdate
    simp only [Sem.run_bind, run_underlying hT, Result.andThen_ok, run_getMap h1, Q.check, run_findKeyL Q a w L es.toList h2, hf]
    exact run_setMap h1 _
  · unfold entriesOf at h2 ⊢
    simp [h2]
/-- A store at a key that is there: its entry has the new element. -/
theorem run_storeL_old (Q : KeyT P K enc) (hT : P.underlying T = some (.map K E)) (h : MapL enc w b L) {j : Nat} {v0 : Value} (hf : findL L a 0 = some (j, v0)) (v : Value) :
    ∃ w', (Instr.mapUpdate T (.map (some b)) (enc a) v).run P w = .ok () w' ∧ MapL enc w' b (L.set j (a, v)) ∧ Kept (fun i => i = b) w w' := by
  have hlt := h.lt
  obtain ⟨es, c, h1, h2⟩ := h
  obtain ⟨k, hk, hLk⟩ := findL_some 0 hf
  rw [Nat.zero_add] at hk
  subst hk
  obtain ⟨e, he, hk1, hk2⟩ := h2.get hLk
  have hes : es[j]? = some e := by rw [← Array.getElem?_toList]; exact he
  refine ⟨w.putMap b (.map (es.modify j fun e => { e with key := enc a, val := v }) c), ?_, ⟨_, _, heap_putMap hlt _, ?_⟩, kept_putMap _ _ _⟩
  · unfold Instr.mapUpdate
    simp only [Sem.run_bind, run_underlying hT, Result.andThen_ok, run_getMap h1, Q.check, run_findKeyL Q a w L es.toList h2, hf, hes, Option.map_some, Option.getD_some, hk1]
    have hb := Q.bits a
    simp only [Instr.keyThatStays, hb, if_true, Sem.run_pure, Result.andThen_ok]
    exact run_setMap h1 _
  · unfold entriesOf at h2 ⊢
    rw [Array.toList_modify, List.map_set, ← h2]
    apply List.ext_getElem?
    intro i
    simp only [List.getElem?_map, List.getElem?_modify, List.getElem?_set]
    by_cases hij : j = i
    · subst hij
      have hl : j < es.toList.length := (List.getElem?_eq_some_iff.1 he).1
      have hl' : j < es.size := by simpa using hl
      simp [hl']
    · simp [hij]
theorem run_deleteL (Q : KeyT P K enc) (hT : P.underlying T = some (.map K E)) (h : MapL enc w b L) (ty : TypeId) (t2 : TypeId) :
    ∃ w', (Builtin.delete_ #[T, t2] ty #[.map (some b), enc a]).run P w = .ok (.tuple #[]) w' ∧ MapL enc w' b (match findL L a 0 with | some (i, _) => L.eraseIdx i | none => L) ∧ Kept (fun i => i = b) w w' := by
  have hlt := h.lt
  obtain ⟨es, c, h1, h2⟩ := h
  rcases hf : findL L a 0 with _ | ⟨i, v⟩
  · refine ⟨w.putMap b (.map es c), ?_, ⟨_, _, heap_putMap hlt _, h2⟩, kept_putMap _ _ _⟩
    unfold Builtin.delete_
    simp [Sem.run_bind, run_underlying hT, Result.andThen_ok, run_getMap h1, Q.check, run_findKeyL Q a w L es.toList h2, hf, run_setMap h1]
  · refine ⟨w.putMap b (.map (es.eraseIdxIfInBounds i) c), ?_, ⟨_, _, heap_putMap hlt _, ?_⟩, kept_putMap _ _ _⟩
    · unfold Builtin.delete_
      simp [Sem.run_bind, run_underlying hT, Result.andThen_ok, run_getMap h1, Q.check, run_findKeyL Q a w L es.toList h2, hf, run_setMap h1]
    · unfold entriesOf at h2 ⊢
      have : (es.eraseIdxIfInBounds i).toList = es.toList.eraseIdx i := by
        unfold Array.eraseIdxIfInBounds
        split
        · simp
        · rename_i hge
          rw [List.eraseIdx_of_length_le (by simpa using hge)]
      rw [this, map_eraseIdx, h2, map_eraseIdx]

/-! The arms of a walk. -/
section arms
variable {ops : Array Oper} {rest : List Oper} {o : Oper} {st : Act} {Q0 : Exit → Act → World → Prop}
theorem exec_lookupL (Q : KeyT P K enc) (hT : P.underlying T = some (.map K E)) {z : Value} (hz : ∀ w, (zeroValue E).run P w = .ok z w) {x ix : Operand} {ok : Bool} (ho : o.op = .lookup T x ix ok)
    (h : MapL enc w b L) (hx : st.eval x = .map (some b)) {a : κ} (hi : st.eval ix = enc a) : (execOp st.eval o).run P w = .ok (.value (lookedUp L a z ok)) w := by
  unfold execOp
  simp only [ho, hx, hi, Sem.run_bind, Sem.run_pure, Result.andThen_ok, run_lookupL Q hT (hz w) h a ok]
theorem wpList_lookupL (Q : KeyT P K enc) (hT : P.underlying T = some (.map K E)) {z : Value} (hz : ∀ w, (zeroValue E).run P w = .ok z w) (hgd : o.guard = none) (x ix : Operand) (ok : Bool) (ho : o.op = .lookup T x ix ok)
    (h : MapL enc w b L) (hx : st.eval x = .map (some b)) (a : κ) (hi : st.eval ix = enc a) (k : wpList P ops Q0 rest (st.put o.dst (lookedUp L a z ok)) w) : wpList P ops Q0 (o :: rest) st w :=
  wpList_plain hgd fun K0 hK => by
    unfold Oper.wp execOp
    simp only [ho, hx, hi, Sem.run_bind, Sem.run_pure, Result.andThen_ok, run_lookupL Q hT (hz w) h a ok]
    exact hK _ _ k
theorem wpList_storeL_new (Q : KeyT P K enc) (hT : P.underlying T = some (.map K E)) (hgd : o.guard = none) (m ix x : Operand) (ho : o.op = .mapUpdate T m ix x)
    (h : MapL enc w b L) (hm : st.eval m = .map (some b)) (a : κ) (hi : st.eval ix = enc a) (v : Value) (hv : st.eval x = v) (hf : findL L a 0 = none)
    (k : ∀ w', MapL enc w' b (L ++ [(a, v)]) → Kept (fun i => i = b) w w' → wpList P ops Q0 rest (st.put o.dst undef) w') : wpList P ops Q0 (o :: rest) st w :=
  wpList_plain hgd fun K0 hK => by
    obtain ⟨w', h1, h2, h3⟩ := run_storeL_new Q hT h hf v
    unfold Oper.wp execOp
    simp only [ho, hm, hi, hv, Sem.run_bind, Sem.run_pure, Result.andThen_ok, h1]
    exact hK _ _ (k w' h2 h3)
theorem wpList_storeL_old (Q : KeyT P K enc) (hT : P.underlying T = some (.map K E)) (hgd : o.guard = none) (m ix x : Operand) (ho : o.op = .mapUpdate T m ix x)
    (h : MapL enc w b L) (hm : st.eval m = .map (some b)) (a : κ) (hi : st.eval ix = enc a) (v : Value) (hv : st.eval x = v) {j : Nat} {v0 : Value} (hf : findL L a 0 = some (j, v0))
    (k : ∀ w', MapL enc w' b (L.set j (a, v)) → Kept (fun i => i = b) w w' → wpList P ops Q0 rest (st.put o.dst undef) w') : wpList P ops Q0 (o :: rest) st w :=
  wpList_plain hgd fun K0 hK => by
    obtain ⟨w', h1, h2, h3⟩ := run_storeL_old Q hT h hf v
    unfold Oper.wp execOp
    simp only [ho, hm, hi, hv, Sem.run_bind, Sem.run_pure, Result.andThen_ok, h1]
    exact hK _ _ (k w' h2 h3)
theorem wpList_deleteL (Q : KeyT P K enc) (hT : P.underlying T = some (.map K E)) (hgd : o.guard = none) (m ix : Operand) (t2 : TypeId) (ho : o.op = .call { callee := .builtin .delete, args := #[m, ix], argTypes := #[T, t2] })
    (h : MapL enc w b L) (hm : st.eval m = .map (some b)) (a : κ) (hi : st.eval ix = enc a)
    (k : ∀ w', MapL enc w' b (match findL L a 0 with | some (i, _) => L.eraseIdx i | none => L) → Kept (fun i => i = b) w w' → wpList P ops Q0 rest (st.put o.dst (.tuple #[])) w') : wpList P ops Q0 (o :: rest) st w :=
  wpList_plain hgd fun K0 hK => by
    obtain ⟨w', h1, h2, h3⟩ := run_deleteL (a := a) Q hT h o.type t2
    unfold Oper.wp execOp
    simp only [ho, resolve, invoke, builtin, Sem.run_bind, Sem.run_pure, Result.andThen_ok, List.map_toArray, List.map_cons, List.map_nil, hm, hi, h1]
    exact hK _ _ (k w' h2 h3)
end arms
end
end Go.Proofs.YtpncbggjngamgaaGreatDoor
namespace Go.Proofs.YtpncbggjngamgaaGreatDoor
set_option linter.unusedVariables false
open Go.RowKit

@[reducible] def keyV (k : Int × Int × Int) : Value := .agg #[.int .u8 k.1, .int .u32 k.2.1, .int .u32 k.2.2]
theorem key_fields : (Tryz.prog.fieldsOf 68).toList = [{ name := "Type", type := 5, offset := 0, embedded := false, tag := "", pkgPath := "", byteOffset := 0 }, { name := "ID", type := 56, offset := 1, embedded := false, tag := "", pkgPath := "", byteOffset := 4 }, { name := "Adv", type := 56, offset := 2, embedded := false, tag := "", pkgPath := "", byteOffset := 8 }] := by kernel_rfl
theorem key_eq (a b : Int × Int × Int) (w : World) : (Op.equal 68 (keyV a) (keyV b)).run Tryz.prog w = .ok (decide (a = b)) w := by
  obtain ⟨a1, a2, a3⟩ := a
  obtain ⟨b1, b2, b3⟩ := b
  have h : (Op.equal 68 (keyV (a1, a2, a3)) (keyV (b1, b2, b3))).run Tryz.prog w = (Op.equalIn (9999 + 1) 68 (keyV (a1, a2, a3)) (keyV (b1, b2, b3))).run Tryz.prog w := rfl
  rw [h, run_equalIn_agg w 9999 68 _ _ (by kernel_rfl) (by kernel_rfl), key_fields]
  go_simp
  by_cases h1 : a1 = b1 <;> by_cases h2 : a2 = b2 <;> by_cases h3 : a3 = b3 <;> simp [h1, h2, h3]
theorem key_check (e : Bool) (a : Int × Int × Int) (w : World) : (Instr.checkKey e 10000 68 (keyV a)).run Tryz.prog w = .ok () w := by kernel_rfl
theorem key_bits (a : Int × Int × Int) : Instr.sameBits 10000 (keyV a) (keyV a) = true := by
  obtain ⟨a1, a2, a3⟩ := a
  simp [keyV, Instr.sameBits]
theorem keyT : KeyT Tryz.prog 68 keyV := ⟨key_eq, key_check, ⟨_, Tryz.underlying68, .inl fun a b => rfl⟩, key_bits⟩
end Go.Proofs.YtpncbggjngamgaaGreatDoor
namespace Go.Proofs.YtpncbggjngamgaaGreatDoor
set_option linter.unusedVariables false
open Go.RowKit

def cmpI (x y : Int) : Int := if x < y then -1 else if y < x then 1 else 0
/-- The first that is not nought. -/
def firstNZ : List Int → Int
  | [] => 0
  | n :: l => if n = 0 then firstNZ l else n
abbrev Ky3 := Int × Int × Int
def keyC (k : Ky3) : List Value := [.int .u8 k.1, .int .u32 k.2.1, .int .u32 k.2.2]
theorem keyC_len (k : Ky3) : (keyC k).length = 3 := rfl
theorem keyC_one (k : Ky3) : ∀ u ∈ keyC k, u.oneCell' = true := by
  intro u hu
  simp only [keyC, List.mem_cons, List.not_mem_nil, or_false] at hu
  rcases hu with rfl | rfl | rfl <;> rfl
def cmpK (a b : Ky3) : Int := firstNZ [cmpI a.1 b.1, cmpI a.2.1 b.2.1, cmpI a.2.2 b.2.2]
theorem cmpI_self (x : Int) : cmpI x x = 0 := by unfold cmpI; simp
theorem cmpI_zero {x y : Int} : cmpI x y = 0 ↔ x = y := by unfold cmpI; split <;> (try split) <;> omega
theorem cmpI_neg {x y : Int} : cmpI x y < 0 ↔ x < y := by unfold cmpI; split <;> (try split) <;> omega
theorem cmpK_self (a : Ky3) : cmpK a a = 0 := by simp [cmpK, firstNZ, cmpI_self]
def ltK (a b : Ky3) : Bool := decide (a.1 < b.1 ∨ (a.1 = b.1 ∧ (a.2.1 < b.2.1 ∨ (a.2.1 = b.2.1 ∧ a.2.2 < b.2.2))))
theorem cmpK_lt (a b : Ky3) : decide (cmpK a b < 0) = ltK a b := by
  unfold cmpK ltK
  simp only [firstNZ]
  apply decide_eq_decide.2
  have h1 := cmpI_zero (x := a.1) (y := b.1)
  have h2 := cmpI_zero (x := a.2.1) (y := b.2.1)
  have h3 := cmpI_zero (x := a.2.2) (y := b.2.2)
  have g1 := cmpI_neg (x := a.1) (y := b.1)
  have g2 := cmpI_neg (x := a.2.1) (y := b.2.1)
  have g3 := cmpI_neg (x := a.2.2) (y := b.2.2)
  generalize cmpI a.1 b.1 = n1 at *
  generalize cmpI a.2.1 b.2.1 = n2 at *
  generalize cmpI a.2.2 b.2.2 = n3 at *
  split
  · split
    · split <;> omega
    · omega
  · omega
theorem ltK_irrefl (a : Ky3) : ltK a a = false := by simp [ltK]
theorem ltK_trans {a b c : Ky3} (h : ltK a b = true) (k : ltK b c = true) : ltK a c = true := by
  simp only [ltK, decide_eq_true_eq] at *
  omega
theorem geK_trans {a b c : Ky3} (h : ltK a b = false) (k : ltK b c = false) : ltK a c = false := by
  simp only [ltK, decide_eq_false_iff_not] at *
  omega
theorem ltK_eq {a b : Ky3} (h : ltK a b = false) (k : ltK b a = false) : a = b := by
  obtain ⟨a1, a2, a3⟩ := a
  obtain ⟨b1, b2, b3⟩ := b
  simp only [ltK, decide_eq_false_iff_not] at h k
  simp only [Prod.mk.injEq]
  omega
set_option maxHeartbeats 1000000
theorem cmpu8_any (x y : Int) (w : World) :
    Calls Tryz.prog 92 #[.int .u8 x, .int .u8 y] w fun e w' => e = .returned (.int .i64 (cmpI x y)) ∧ w = w' := by
  have h3 : x < y ∨ y < x ∨ x = y := by omega
  rcases h3 with h | h | h
  · have e : Hid (cmpI x y = -1) := by show _ = _; unfold cmpI; rw [if_pos h]
    go_enter Tryz.func92, Tryz.ntmps92
    go_wp2
    go_ret
    exact ⟨by rw [e.out]; rfl, rfl⟩
  · have e : Hid (cmpI x y = 1) := by show _ = _; unfold cmpI; rw [if_neg (by omega), if_pos h]
    go_enter Tryz.func92, Tryz.ntmps92
    go_wp2
    go_ret
    exact ⟨by rw [e.out]; rfl, rfl⟩
  · subst h
    have e : Hid (cmpI x x = 0) := by show _ = _; unfold cmpI; rw [if_neg (by omega), if_neg (by omega)]
    go_enter Tryz.func92, Tryz.ntmps92
    go_wp2
    go_ret
    exact ⟨by rw [e.out]; rfl, rfl⟩
theorem cmpu32_any (x y : Int) (w : World) :
    Calls Tryz.prog 94 #[.int .u32 x, .int .u32 y] w fun e w' => e = .returned (.int .i64 (cmpI x y)) ∧ w = w' := by
  have h3 : x < y ∨ y < x ∨ x = y := by omega
  rcases h3 with h | h | h
  · have e : Hid (cmpI x y = -1) := by show _ = _; unfold cmpI; rw [if_pos h]
    go_enter Tryz.func94, Tryz.ntmps94
    go_wp2
    go_ret
    exact ⟨by rw [e.out]; rfl, rfl⟩
  · have e : Hid (cmpI x y = 1) := by show _ = _; unfold cmpI; rw [if_neg (by omega), if_pos h]
    go_enter Tryz.func94, Tryz.ntmps94
    go_wp2
    go_ret
    exact ⟨by rw [e.out]; rfl, rfl⟩
  · subst h
    have e : Hid (cmpI x x = 0) := by show _ = _; unfold cmpI; rw [if_neg (by omega), if_neg (by omega)]
    go_enter Tryz.func94, Tryz.ntmps94
    go_wp2
    go_ret
    exact ⟨by rw [e.out]; rfl, rfl⟩
theorem k1_any (w : World) (ga gb : Nat) (a b : Ky3) (ha : Blk w ga 68 (keyC a).toArray) (hb : Blk w gb 68 (keyC b).toArray) :
    Calls Tryz.prog 91 #[.pointer (some ⟨ga, 0, none⟩), .pointer (some ⟨gb, 0, none⟩)] w fun e w' => e = .returned (.int .i64 (cmpI a.1 b.1)) ∧ w = w' := by
  have h1 : w.cell? ⟨ga, 0, none⟩ = some (.int .u8 a.1) := ha.cell 0
  have h2 : w.cell? ⟨gb, 0, none⟩ = some (.int .u8 b.1) := hb.cell 0
  clear ha hb
  go_enter Tryz.func91, Tryz.ntmps91
  go_wp2_with (go_at_call 92; refine (cmpu8_any _ _ _).mono ?_; rintro e w' ⟨rfl, rfl⟩)
  go_ret
  exact ⟨rfl, rfl⟩
theorem k2_any (w : World) (ga gb : Nat) (a b : Ky3) (ha : Blk w ga 68 (keyC a).toArray) (hb : Blk w gb 68 (keyC b).toArray) :
    Calls Tryz.prog 93 #[.pointer (some ⟨ga, 0, none⟩), .pointer (some ⟨gb, 0, none⟩)] w fun e w' => e = .returned (.int .i64 (cmpI a.2.1 b.2.1)) ∧ w = w' := by
  have h1 : w.cell? ⟨ga, 1, none⟩ = some (.int .u32 a.2.1) := ha.cell 1
  have h2 : w.cell? ⟨gb, 1, none⟩ = some (.int .u32 b.2.1) := hb.cell 1
  clear ha hb
  go_enter Tryz.func93, Tryz.ntmps93
  go_wp2_with (go_at_call 94; refine (cmpu32_any _ _ _).mono ?_; rintro e w' ⟨rfl, rfl⟩)
  go_ret
  exact ⟨rfl, rfl⟩
theorem k3_any (w : World) (ga gb : Nat) (a b : Ky3) (ha : Blk w ga 68 (keyC a).toArray) (hb : Blk w gb 68 (keyC b).toArray) :
    Calls Tryz.prog 95 #[.pointer (some ⟨ga, 0, none⟩), .pointer (some ⟨gb, 0, none⟩)] w fun e w' => e = .returned (.int .i64 (cmpI a.2.2 b.2.2)) ∧ w = w' := by
  have h1 : w.cell? ⟨ga, 2, none⟩ = some (.int .u32 a.2.2) := ha.cell 2
  have h2 : w.cell? ⟨gb, 2, none⟩ = some (.int .u32 b.2.2) := hb.cell 2
  clear ha hb
  go_enter Tryz.func95, Tryz.ntmps95
  go_wp2_with (go_at_call 94; refine (cmpu32_any _ _ _).mono ?_; rintro e w' ⟨rfl, rfl⟩)
  go_ret
  exact ⟨rfl, rfl⟩
set_option maxRecDepth 100000 in
set_option maxHeartbeats 2000000 in
theorem firstK_any (w : World) (gs ga gb : Nat) (a b : Ky3) (hs : Blk w gs 64 #[.func (.func 91) #[] #[.pointer (some ⟨ga, 0, none⟩), .pointer (some ⟨gb, 0, none⟩)], .func (.func 93) #[] #[.pointer (some ⟨ga, 0, none⟩), .pointer (some ⟨gb, 0, none⟩)], .func (.func 95) #[] #[.pointer (some ⟨ga, 0, none⟩), .pointer (some ⟨gb, 0, none⟩)]])
    (ha : Blk w ga 68 (keyC a).toArray) (hb : Blk w gb 68 (keyC b).toArray) :
    Calls Tryz.prog 90 #[.slice (some ⟨gs, 0, none⟩) 3 3] w fun e w' => e = .returned (.int .i64 (cmpK a b)) ∧ w = w' := by
  have Q1 := Lib.hid (k1_any w ga gb a b ha hb)
  have Q2 := Lib.hid (k2_any w ga gb a b ha hb)
  have Q3 := Lib.hid (k3_any w ga gb a b ha hb)
  have c0 : w.cell? ⟨gs, 0, none⟩ = some (.func (.func 91) #[] #[.pointer (some ⟨ga, 0, none⟩), .pointer (some ⟨gb, 0, none⟩)]) := hs.cell 0
  have c1 : w.cell? ⟨gs, 1, none⟩ = some (.func (.func 93) #[] #[.pointer (some ⟨ga, 0, none⟩), .pointer (some ⟨gb, 0, none⟩)]) := hs.cell 1
  have c2 : w.cell? ⟨gs, 2, none⟩ = some (.func (.func 95) #[] #[.pointer (some ⟨ga, 0, none⟩), .pointer (some ⟨gb, 0, none⟩)]) := hs.cell 2
  clear hs ha hb
  unfold cmpK
  obtain ⟨n1, h1⟩ : ∃ n, n = cmpI a.1 b.1 := ⟨_, rfl⟩
  obtain ⟨n2, h2⟩ : ∃ n, n = cmpI a.2.1 b.2.1 := ⟨_, rfl⟩
  obtain ⟨n3, h3⟩ : ∃ n, n = cmpI a.2.2 b.2.2 := ⟨_, rfl⟩
  rw [← h1] at Q1 ⊢
  rw [← h2] at Q2 ⊢
  rw [← h3] at Q3 ⊢
  clear h1 h2 h3
  go_enter Tryz.func90, Tryz.ntmps90
  go_wp2
  go_loop [8] (fun i => ∃ k : Nat, i = .int .i64 k ∧ k ≤ 3 ∧ Hid (firstNZ [n1, n2, n3] = firstNZ ([n1, n2, n3].drop k))) (fun i => 3 - (intOf i).toNat)
  case atStart => exact ⟨0, rfl, by omega, rfl⟩
  case round =>
    obtain ⟨k, rfl, hk, hn⟩ := hrel
    have hk5 : k = 0 ∨ k = 1 ∨ k = 2 ∨ k = 3 := by omega
    rcases hk5 with rfl | rfl | rfl | rfl
    · by_cases hz : n1 = 0
      · have hb : (n1 != 0) = false := by simp [hz]
        have hn' : Hid (firstNZ [n1, n2, n3] = firstNZ ([n1, n2, n3].drop 1)) := by
          show _ = _
          rw [hn.out]
          show firstNZ ([n1, n2, n3]) = _
          rw [firstNZ, if_pos hz]
          rfl
        clear hz hn
        go_wp2_with fail
        refine Q1.out.mono ?_
        rintro e w' ⟨rfl, rfl⟩
        go_wp2_with fail
        go_round
        case rel => exact ⟨1, rfl, by omega, hn'⟩
        case measure => simp [intOf]
      · have hb : (n1 != 0) = true := by simp [hz]
        have hn' : Hid (firstNZ [n1, n2, n3] = n1) := by
          show _ = _
          rw [hn.out]
          show firstNZ ([n1, n2, n3]) = _
          rw [firstNZ, if_neg hz]
        clear hz hn
        go_wp2_with fail
        refine Q1.out.mono ?_
        rintro e w' ⟨rfl, rfl⟩
        go_wp2_with fail
        go_ret
        exact ⟨by rw [hn'.out]; rfl, rfl⟩
    · by_cases hz : n2 = 0
      · have hb : (n2 != 0) = false := by simp [hz]
        have hn' : Hid (firstNZ [n1, n2, n3] = firstNZ ([n1, n2, n3].drop 2)) := by
          show _ = _
          rw [hn.out]
          show firstNZ ([n2, n3]) = _
          rw [firstNZ, if_pos hz]
          rfl
        clear hz hn
        go_wp2_with fail
        refine Q2.out.mono ?_
        rintro e w' ⟨rfl, rfl⟩
        go_wp2_with fail
        go_round
        case rel => exact ⟨2, rfl, by omega, hn'⟩
        case measure => simp [intOf]
      · have hb : (n2 != 0) = true := by simp [hz]
        have hn' : Hid (firstNZ [n1, n2, n3] = n2) := by
          show _ = _
          rw [hn.out]
          show firstNZ ([n2, n3]) = _
          rw [firstNZ, if_neg hz]
        clear hz hn
        go_wp2_with fail
        refine Q2.out.mono ?_
        rintro e w' ⟨rfl, rfl⟩
        go_wp2_with fail
        go_ret
        exact ⟨by rw [hn'.out]; rfl, rfl⟩
    · by_cases hz : n3 = 0
      · have hb : (n3 != 0) = false := by simp [hz]
        have hn' : Hid (firstNZ [n1, n2, n3] = firstNZ ([n1, n2, n3].drop 3)) := by
          show _ = _
          rw [hn.out]
          show firstNZ ([n3]) = _
          rw [firstNZ, if_pos hz]
          rfl
        clear hz hn
        go_wp2_with fail
        refine Q3.out.mono ?_
        rintro e w' ⟨rfl, rfl⟩
        go_wp2_with fail
        go_round
        case rel => exact ⟨3, rfl, by omega, hn'⟩
        case measure => simp [intOf]
      · have hb : (n3 != 0) = true := by simp [hz]
        have hn' : Hid (firstNZ [n1, n2, n3] = n3) := by
          show _ = _
          rw [hn.out]
          show firstNZ ([n3]) = _
          rw [firstNZ, if_neg hz]
        clear hz hn
        go_wp2_with fail
        refine Q3.out.mono ?_
        rintro e w' ⟨rfl, rfl⟩
        go_wp2_with fail
        go_ret
        exact ⟨by rw [hn'.out]; rfl, rfl⟩
    · go_wp2_with fail
      go_ret
      exact ⟨by rw [hn.out]; rfl, rfl⟩
end Go.Proofs.YtpncbggjngamgaaGreatDoor
namespace Go.Proofs.YtpncbggjngamgaaGreatDoor
set_option linter.unusedVariables false
open Go.RowKit

theorem new_at (w : World) (A B : Obj) : ((w.alloc A).alloc B).heap[w.heap.size + 1]? = some B := by
  have := heap_alloc_new (w.alloc A) B
  rwa [World.size_alloc] at this
theorem below_two (w : World) (A B : Obj) : Below w.heap.size w ((w.alloc A).alloc B) := ((Below.refl _ _).alloc (Nat.le_refl _) _).alloc (by rw [World.size_alloc]; omega) _
theorem kept_setC (w : World) (g i : Nat) (u : Value) : Kept (fun j => j = g) w (w.setCell ⟨g, i, none⟩ u) := (Kept.refl (fun j => j = g) w).setCell (p := ⟨g, i, none⟩) (fun _ => rfl) u
theorem blk_ne {w : World} {g g' : Nat} {t t' : TypeId} {cs cs' : Array Value} (h : Blk w g t cs) (h' : Blk w g' t' cs') (hn : t ≠ t') : g ≠ g' := by
  rintro rfl
  have : some (Obj.cells cs t) = some (Obj.cells cs' t') := h.symm.trans h'
  injection this with this
  injection this with _ this
  exact hn this
theorem MapL.cell_none {κ : Type} [DecidableEq κ] {enc : κ → Value} {w : World} {b i : Nat} {L : List (κ × Value)} {v : Value} (h : MapL enc w b L) (hc : w.cell? ⟨b, i, none⟩ = some v) : False := by
  obtain ⟨es, clock, hh, _⟩ := h
  simp [World.cell?, hh] at hc
theorem Kept.cell {S : Nat → Prop} {w w' : World} (h : Kept S w w') {p : Addr} (hp : p.block < w.heap.size) (hn : ¬ S p.block) : w'.cell? p = w.cell? p := by
  unfold World.cell?
  rw [h.block _ hp hn]
theorem run_app_nothing {P : Program} {w : World} {t e : TypeId} {size bytes : Nat} (E : El P t e size bytes) (ty : TypeId) (A A' : Option Addr) (n c c' : Nat) (hc : n ≤ c) :
    (Builtin.append_ #[t, t] ty #[.slice A n c, .slice A' 0 c']).run P w = .ok (.slice A n c) w := by
  obtain ⟨i, z, hi, hz⟩ := E.info
  cases A <;> cases A' <;> simp [Builtin.append_, run_underlying E.ht, sizeOf, typeInfo, hi, Builtin.lenOf, Builtin.firstCells, storeCells, loadCells, loadCellsFrom, hc]
theorem wpList_app_nothing {P : Program} {ops : Array Oper} {rest : List Oper} {o : Oper} {a : Act} {Q : Exit → Act → World → Prop} {w : World} {t e : TypeId} {size bytes : Nat} (E : El P t e size bytes)
    (hgd : o.guard = none) (s x : Operand) (ho : o.op = .call { callee := .builtin .append, args := #[s, x], argTypes := #[t, t] })
    {A A' : Option Addr} {n c c' : Nat} (hs : a.eval s = .slice A n c) (hx : a.eval x = .slice A' 0 c') (hc : n ≤ c)
    (h : wpList P ops Q rest (a.put o.dst (.slice A n c)) w) :
    wpList P ops Q (o :: rest) a w := by
  refine wpList_plain hgd fun K hK => ?_
  unfold Oper.wp execOp
  simp only [ho, resolve, invoke, builtin, Sem.run_bind, Sem.run_pure, Result.andThen_ok, List.map_toArray, List.map_cons, List.map_nil, hs, hx, run_app_nothing E o.type A A' n c c' hc]
  exact hK _ _ h

/-- A slice of the whole front of a block of ours, that may be wider than the slice says. -/
def OwnW (w : World) (e : TypeId) (size : Nat) (v : Value) (n : Nat) (xs : List Value) : Prop :=
  xs.length = n * size ∧ ((v = .slice none 0 0 ∧ n = 0) ∨
    ∃ g cap cur, v = .slice (some ⟨g, 0, none⟩) n cap ∧ Blk w g e cur ∧ n ≤ cap ∧ cap ≤ 9223372036854775807 ∧ cap * size ≤ cur.size ∧ cur.toList.take (n * size) = xs)
theorem OwnW.of_own {w : World} {base size n : Nat} {e : TypeId} {v : Value} {xs : List Value} (h : w.ownsRow base e size v n xs) : OwnW w e size v n xs := by
  refine ⟨h.1, ?_⟩
  rcases h.2 with h1 | ⟨g, cap, cur, hv, _, hk, h1, h2, h3, h4⟩
  · exact .inl h1
  · exact .inr ⟨g, cap, cur, hv, hk, h1, by unfold maxLen at h2; exact h2, by rw [h3]; exact Nat.le_refl _, h4⟩
theorem OwnW.nil (w : World) (e : TypeId) (size : Nat) : OwnW w e size (.slice none 0 0) 0 [] := ⟨by simp, .inl ⟨rfl, rfl⟩⟩
theorem OwnW.kept {S : Nat → Prop} {w w' : World} {e : TypeId} {size n : Nat} {v : Value} {xs : List Value} (h : OwnW w e size v n xs) (k : Kept S w w') (hn : ∀ i, v.ownBlock = some i → ¬ S i) : OwnW w' e size v n xs := by
  refine ⟨h.1, ?_⟩
  rcases h.2 with h1 | ⟨g, cap, cur, hv, hk, r⟩
  · exact .inl h1
  · exact .inr ⟨g, cap, cur, hv, hk.kept k (hn g (by rw [hv]; rfl)), r⟩
theorem OwnW.later {w w' : World} {e : TypeId} {size n : Nat} {v : Value} {xs : List Value} (h : OwnW w e size v n xs) (hb : Below w.heap.size w w') : OwnW w' e size v n xs :=
  h.kept (Kept.of_new hb (fun _ => False)) (fun _ _ h => h)
theorem OwnW.lt {w : World} {e : TypeId} {size n i : Nat} {v : Value} {xs : List Value} (h : OwnW w e size v n xs) (hi : v.ownBlock = some i) : i < w.heap.size := by
  rcases h.2 with ⟨rfl, _⟩ | ⟨g, cap, cur, rfl, hk, _⟩
  · simp [Value.ownBlock] at hi
  · have : g = i := by simpa [Value.ownBlock] using hi
    subst this
    exact hk.lt
theorem OwnW.ne_blk {w : World} {e t : TypeId} {size n g : Nat} {v : Value} {xs : List Value} {cs : Array Value} (h : OwnW w e size v n xs) (hg : Blk w g t cs) (hne : e ≠ t) : v.ownBlock ≠ some g := by
  rcases h.2 with ⟨rfl, _⟩ | ⟨g', cap, cur, rfl, hh, _⟩
  · simp [Value.ownBlock]
  · intro he
    have : g' = g := by simpa [Value.ownBlock] using he
    subst this
    exact blk_ne hh hg hne rfl
theorem OwnW.ne_map {w : World} {e : TypeId} {size n b : Nat} {v : Value} {xs : List Value} {κ : Type} [DecidableEq κ] {enc : κ → Value} {L : List (κ × Value)} (h : OwnW w e size v n xs) (hm : MapL enc w b L) : v.ownBlock ≠ some b := by
  rcases h.2 with ⟨rfl, _⟩ | ⟨g', cap, cur, rfl, hh, _⟩
  · simp [Value.ownBlock]
  · intro he
    have : g' = b := by simpa [Value.ownBlock] using he
    subst this
    exact hm.ne_blk hh rfl
theorem OwnW.shape {w : World} {e : TypeId} {size n : Nat} {v : Value} {xs : List Value} (h : OwnW w e size v n xs) : ∃ A c, v = .slice A n c ∧ n ≤ c ∧ c ≤ 9223372036854775807 ∧ Reads w w.heap.size size A n xs ∧ (∀ ad, A = some ad → v.ownBlock = some ad.block ∧ ad = ⟨ad.block, 0, none⟩) := by
  rcases h.2 with ⟨rfl, rfl⟩ | ⟨g, cap, cur, rfl, hk, h1, h2, h3, h4⟩
  · refine ⟨none, 0, rfl, Nat.le_refl _, by omega, ⟨h.1, fun h0 => absurd h0 (by omega)⟩, fun ad h => by cases h⟩
  · refine ⟨_, cap, rfl, h1, h2, ⟨h.1, fun _ => ⟨_, rfl, hk.lt, fun j u hu => ?_⟩⟩, fun ad h => ?_⟩
    · rw [add_none, Nat.zero_add, hk.cell]
      rw [← h4, List.getElem?_take] at hu
      split at hu
      · simpa using hu
      · cases hu
    · injection h with h; subst h; exact ⟨rfl, rfl⟩

/-- append, onto such a row. -/
theorem run_appW {P : Program} {w : World} {t e : TypeId} {size bytes : Nat} (E : El P t e size bytes) (ty : TypeId) {v : Value} {n : Nat} {xs : List Value} (hown : OwnW w e size v n xs)
    {B : Nat} {A : Option Addr} {m : Nat} (c : Nat) {news : List Value} (hr : Reads w B size A m news) (h1 : ∀ u ∈ news, u.oneCell' = true)
    (h63 : n + m ≤ maxLen) (hbytes : (n + m) * bytes ≤ 140737488355328) :
    ∃ v' w', (Builtin.append_ #[t, t] ty #[v, .slice A m c]).run P w = .ok v' w' ∧ OwnW w' e size v' (n + m) (xs ++ news) ∧ Kept (fun i => v.ownBlock = some i) w w' ∧
      (v'.ownBlock = v.ownBlock ∨ ∃ i, v'.ownBlock = some i ∧ w.heap.size ≤ i) := by
  rcases hown.2 with ⟨rfl, rfl⟩ | ⟨g, cap, cur, rfl, hk, hnc, hcm, hcs, htake⟩
  · have hx : xs = [] := List.eq_nil_of_length_eq_zero (by simpa using hown.1)
    subst hx
    obtain ⟨v', w', hrun, h2, h3, h4⟩ := run_app E ty (World.ownsRow_nil w w.heap.size e size) c hr h1 h63 hbytes (Nat.le_refl _)
    refine ⟨v', w', hrun, OwnW.of_own h2, (Kept.of_grown h3).mono (fun i _ hi => by simp [Value.ownBlock] at hi), ?_⟩
    rcases h4 with h4 | h4
    · exact .inl h4
    · exact .inr ⟨_, h4, Nat.le_refl _⟩
  · obtain ⟨i, z, hi, hz, hsize, hby, hzs⟩ := E.info
    rcases Nat.eq_zero_or_pos m with h0 | h0
    · subst h0
      have hn : news = [] := List.eq_nil_of_length_eq_zero (by simpa using hr.1)
      subst hn
      refine ⟨_, w, run_app_nothing E ty (some ⟨g, 0, none⟩) A n cap c hnc, ?_, Kept.refl _ _, .inl rfl⟩
      rw [Nat.add_zero, List.append_nil]
      exact hown
    · obtain ⟨ad, rfl, hb, hcells⟩ := hr.2 h0
      by_cases hroom : n + m ≤ cap
      · have hl : news.length = m * i.size := by rw [hsize]; exact hr.1
        have hle : (n + m) * size ≤ cap * size := Nat.mul_le_mul_right _ hroom
        have hfit : n * i.size + news.length ≤ cur.size := by
          rw [hl, hsize, ← Nat.add_mul]
          exact Nat.le_trans hle hcs
        have hrun := run_append_room (P := P) w t ty e i E.ht hi g n cap cur hk ad m c news hl hcells h1 hroom hfit
        refine ⟨_, _, hrun, ⟨by rw [List.length_append, hown.1, hr.1, Nat.add_mul], .inr ⟨g, cap, _, rfl, hk.setRow _, hroom, hcm, ?_, ?_⟩⟩, Kept.of_grown (only_setRow w g _) |>.mono (fun j _ hj => by simpa [Value.ownBlock] using hj), .inl rfl⟩
        · simp only [List.size_toArray, List.length_append, List.length_take, List.length_drop]
          have : n * i.size ≤ cur.size := by omega
          rw [Array.length_toList]
          omega
        · have hlen : (xs ++ news).length = (n + m) * size := by rw [List.length_append, hown.1, hr.1, Nat.add_mul]
          simp only [hsize, htake]
          show List.take _ (xs ++ news ++ _) = xs ++ news
          rw [List.take_append_of_le_length (by omega), List.take_of_length_le (by omega)]
      · have holds : ∀ j u, xs[j]? = some u → w.cell? ((⟨g, 0, none⟩ : Addr).add j) = some u := by
          intro j u hu
          rw [add_none, Nat.zero_add, hk.cell]
          rw [← htake, List.getElem?_take] at hu
          split at hu
          · simpa using hu
          · cases hu
        obtain ⟨v', w', hrun, h2, h3⟩ := run_append_arg_grows (P := P) w t ty e i z size bytes E.ht hi hz hsize hby hzs E.pos ⟨g, 0, none⟩ n cap xs hown.1 holds ad m c news hr.1 hcells (by omega) h63 hbytes
        refine ⟨v', w', hrun, OwnW.of_own h2, (Kept.of_grown h3).mono (fun j _ hj => by cases hj), ?_⟩
        rcases hv : v'.ownBlock with _ | j
        · rcases h2.2 with ⟨_, h5⟩ | ⟨g', cap', cur', rfl, _⟩
          · omega
          · simp [Value.ownBlock] at hv
        · exact .inr ⟨j, rfl, (own_ge h2 hv).1⟩
theorem wpList_appW {P : Program} {ops : Array Oper} {rest : List Oper} {o : Oper} {a : Act} {Q : Exit → Act → World → Prop} {w : World} {t e : TypeId} {size bytes : Nat} (E : El P t e size bytes)
    (hgd : o.guard = none) (s x : Operand) (ho : o.op = .call { callee := .builtin .append, args := #[s, x], argTypes := #[t, t] })
    {v : Value} {n : Nat} {xs : List Value} (hown : OwnW w e size v n xs) (hs : a.eval s = v)
    {B : Nat} {A : Option Addr} {m c : Nat} {news : List Value} (hr : Reads w B size A m news) (hx : a.eval x = .slice A m c) (h1 : ∀ u ∈ news, u.oneCell' = true)
    (h63 : n + m ≤ maxLen) (hbytes : (n + m) * bytes ≤ 140737488355328)
    (h : ∀ v' w', OwnW w' e size v' (n + m) (xs ++ news) → Kept (fun i => v.ownBlock = some i) w w' → (v'.ownBlock = v.ownBlock ∨ ∃ i, v'.ownBlock = some i ∧ w.heap.size ≤ i) → wpList P ops Q rest (a.put o.dst v') w') :
    wpList P ops Q (o :: rest) a w := by
  obtain ⟨v', w', hrun, h2, h3, h4⟩ := run_appW E o.type hown c hr h1 h63 hbytes
  refine wpList_plain hgd fun K hK => ?_
  unfold Oper.wp execOp
  simp only [ho, resolve, invoke, builtin, Sem.run_bind, Sem.run_pure, Result.andThen_ok, List.map_toArray, List.map_cons, List.map_nil, hs, hx, hrun]
  exact hK _ _ (h v' w' h2 h3 h4)

theorem OwnW.ne_own {w : World} {e e' : TypeId} {size size' n n' i : Nat} {v v' : Value} {xs xs' : List Value} (h : OwnW w e size v n xs) (h' : OwnW w e' size' v' n' xs') (hne : e ≠ e') (hi : v.ownBlock = some i) : v'.ownBlock ≠ some i := by
  rcases h.2 with ⟨rfl, _⟩ | ⟨g, cap, cur, rfl, hh, _⟩
  · simp [Value.ownBlock] at hi
  · have : g = i := by simpa [Value.ownBlock] using hi
    subst this
    exact h'.ne_blk hh (fun e => hne e.symm)
end Go.Proofs.YtpncbggjngamgaaGreatDoor
