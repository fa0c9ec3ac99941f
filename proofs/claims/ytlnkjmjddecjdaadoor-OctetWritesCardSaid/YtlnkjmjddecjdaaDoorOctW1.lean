/-
  What the arguments of OctetWrites are; two writers side by side. Printed by gen_octw1.py.
-/
import Derived.Test.YtlnkjmjddecjdaaDoorRefWr
import Derived.Test.YtlnkjmjddecjdaaDoorOwnW
import Derived.Test.YtlnkjmjddecjdaaDoorFlat
import Derived.ChangeArms
import Derived.WideShapes
import Derived.OpenShut
import Derived.SizedLaws
namespace Go.Proofs.YtlnkjmjddecjdaaDoor
set_option linter.unusedVariables false
open Go.ChangeShapes Go.WideShapes Go.RowKit
set_option maxRecDepth 100000

/-- One call, as it comes in. -/
structure OpA where
  d0 : Int
  n : Int
  at_ : Int
  v : Int
  A : Option Addr
  m : Nat
  c : Nat
  B : List Int
structure OArg (w : World) (o : OpA) : Prop where
  dob : -9223372036854775808 ≤ o.d0 ∧ o.d0 ≤ 9223372036854775807
  nb : -9223372036854775808 ≤ o.n ∧ o.n ≤ 9223372036854775807
  atb : -9223372036854775808 ≤ o.at_ ∧ o.at_ ≤ 9223372036854775807
  vb : 0 ≤ o.v ∧ o.v ≤ 4294967295
  body : Reads w w.heap.size 1 o.A o.m (u8s o.B)
  oct : Oct o.B
  cap : o.m ≤ o.c ∧ o.c ≤ 9223372036854775807
theorem OArg.later {w w' : World} {o : OpA} (h : OArg w o) (hb : Below w.heap.size w w') : OArg w' o := ⟨h.dob, h.nb, h.atb, h.vb, h.body.later hb, h.oct, h.cap⟩
def OpA.cells (o : OpA) : List Value := [.int .i64 o.d0, .int .i64 o.n, .int .i64 o.at_, .int .u32 o.v, .slice o.A o.m o.c]
theorem op_len (o : OpA) : o.cells.length = 5 := rfl
set_option maxRecDepth 100000 in
theorem op_of {H : Type} {enc : TypeId × Value → H} {w : World} {held : Bool} (fuel : Nat) (cs : List Value) (x : DataW H × List MemPlace) (h : DataW.trod enc Tryd.prog w 0 (fun _ => true) held fuel 34 cs = some x) :
    ∃ o : OpA, cs = o.cells ∧ OArg w o ∧ ((∀ N ∈ x.1.weights Tryd.prog 34, N ≤ reachBytes) → o.m ≤ reachBytes) := by
  obtain ⟨xs, n, _, hxw, hl, hxl, hf⟩ := DataW.trod_struct Tryd.underlying34 h
  have hC : Tryd.prog.cellsOf 34 = 5 := by kernel_rfl
  rw [hC] at hl
  match cs, hl, xs, hxl with
  | [c0, c1, c2, c3, c4], _, [y0, y1, y2, y3, y4], _ =>
    have g0 : DataW.trod enc Tryd.prog w 0 (fun _ => true) held n 3 (([c0, c1, c2, c3, c4].drop 0).take (Tryd.prog.cellsOf 3)) = some y0 := hf 0 _ rfl
    rw [show Tryd.prog.cellsOf 3 = 1 from by kernel_rfl] at g0
    replace g0 : DataW.trod enc Tryd.prog w 0 (fun _ => true) held n 3 [c0] = some y0 := g0
    have g1 : DataW.trod enc Tryd.prog w 0 (fun _ => true) held n 3 (([c0, c1, c2, c3, c4].drop 1).take (Tryd.prog.cellsOf 3)) = some y1 := hf 1 _ rfl
    rw [show Tryd.prog.cellsOf 3 = 1 from by kernel_rfl] at g1
    replace g1 : DataW.trod enc Tryd.prog w 0 (fun _ => true) held n 3 [c1] = some y1 := g1
    have g2 : DataW.trod enc Tryd.prog w 0 (fun _ => true) held n 3 (([c0, c1, c2, c3, c4].drop 2).take (Tryd.prog.cellsOf 3)) = some y2 := hf 2 _ rfl
    rw [show Tryd.prog.cellsOf 3 = 1 from by kernel_rfl] at g2
    replace g2 : DataW.trod enc Tryd.prog w 0 (fun _ => true) held n 3 [c2] = some y2 := g2
    have g3 : DataW.trod enc Tryd.prog w 0 (fun _ => true) held n 32 (([c0, c1, c2, c3, c4].drop 3).take (Tryd.prog.cellsOf 32)) = some y3 := hf 3 _ rfl
    rw [show Tryd.prog.cellsOf 32 = 1 from by kernel_rfl] at g3
    replace g3 : DataW.trod enc Tryd.prog w 0 (fun _ => true) held n 32 [c3] = some y3 := g3
    have g4 : DataW.trod enc Tryd.prog w 0 (fun _ => true) held n 28 (([c0, c1, c2, c3, c4].drop 4).take (Tryd.prog.cellsOf 28)) = some y4 := hf 4 _ rfl
    rw [show Tryd.prog.cellsOf 28 = 1 from by kernel_rfl] at g4
    replace g4 : DataW.trod enc Tryd.prog w 0 (fun _ => true) held n 28 [c4] = some y4 := g4
    obtain ⟨a0, e0, _, w0⟩ := DataW.trod_int Tryd.underlying3 g0
    injection e0 with e0 _; subst e0
    have b0 := bounds_i64 w0
    obtain ⟨a1, e1, _, w1⟩ := DataW.trod_int Tryd.underlying3 g1
    injection e1 with e1 _; subst e1
    have b1 := bounds_i64 w1
    obtain ⟨a2, e2, _, w2⟩ := DataW.trod_int Tryd.underlying3 g2
    injection e2 with e2 _; subst e2
    have b2 := bounds_i64 w2
    obtain ⟨a3, e3, _, w3⟩ := DataW.trod_int Tryd.underlying32 g3
    injection e3 with e3 _; subst e3
    have b3 := bounds_u32 w3
    obtain ⟨A4, n4, k4, z4, rfl, ⟨r4, o4, m4⟩, v4⟩ := bytes_open Tryd.underlying28 Tryd.underlying5 (by kernel_rfl) (by kernel_rfl) g4
    refine ⟨⟨a0, a1, a2, a3, A4, n4, k4, z4⟩, rfl, ⟨b0, b1, b2, b3, r4, o4, m4⟩, fun hw => ?_⟩
    rw [hxw] at hw
    refine Nat.le_trans m4.1 (v4 fun N hN => hw N ?_)
    simp only [DataW.weights, Tryd.underlying34]
    exact DataW.weights_mem_each (j := 4) (t := 28) (d := y4.1) rfl rfl N hN
structure Opl (w : World) (A : Option Addr) (n : Nat) (L : List OpA) : Prop where
  row : Reads w w.heap.size 5 A n (L.flatMap OpA.cells)
  len : L.length = n
  ok : ∀ s ∈ L, OArg w s
theorem Opl.later {w w' : World} {A : Option Addr} {n : Nat} {L : List OpA} (h : Opl w A n L) (hb : Below w.heap.size w w') : Opl w' A n L := ⟨h.row.later hb, h.len, fun s hs => (h.ok s hs).later hb⟩
/-- The cells of a call that stands at an address. -/
def OpAt (w : World) (ad : Addr) (s : OpA) : Prop :=
  w.cell? ad = some (.int .i64 s.d0) ∧ w.cell? ⟨ad.block, ad.off + 1, none⟩ = some (.int .i64 s.n) ∧ w.cell? ⟨ad.block, ad.off + 2, none⟩ = some (.int .i64 s.at_) ∧ w.cell? ⟨ad.block, ad.off + 3, none⟩ = some (.int .u32 s.v) ∧ w.cell? ⟨ad.block, ad.off + 4, none⟩ = some (.slice s.A s.m s.c)
theorem Opl.at_ {w : World} {A : Option Addr} {n i : Nat} {L : List OpA} (h : Opl w A n L) (hi : i < n) : ∃ ad s, A = some ad ∧ ad.block < w.heap.size ∧ L[i]? = some s ∧ OArg w s ∧ OpAt w (ad.add (i * 5)) s := by
  obtain ⟨ad, s, e, hb, hs, h0, hj⟩ := rowG_at op_len h.row h.len hi
  exact ⟨ad, s, e, hb, hs, h.ok s (List.mem_of_getElem? hs), h0 _ rfl, hj 1 _ (by decide) rfl, hj 2 _ (by decide) rfl, hj 3 _ (by decide) rfl, hj 4 _ (by decide) rfl⟩
theorem ops_arg {H : Type} {enc : TypeId × Value → H} {w : World} {r : Reach} {b : Nat} {held : Bool} {v : Value} {d : DataW H} {p : List MemPlace}
    (hv : Value.okWide Tryd.prog w r b 22 v) (h : DataW.Trod enc Tryd.prog w 0 (fun _ => true) held 22 v d p) :
    ∃ (A : Option Addr) (n c : Nat) (L : List OpA), v = .slice A n c ∧ Opl w A n L ∧ n ≤ c ∧ c ≤ 9223372036854775807 ∧ ((∀ N ∈ d.weights Tryd.prog 22, N ≤ reachBytes) → ∀ o ∈ L, o.m ≤ reachBytes) := by
  obtain ⟨A, n, c, L, e, h1, h2, h3, h4, h5, h6⟩ := slice_arg (cs := OpA.cells) op_len (by decide) Tryd.underlying22 (by kernel_rfl) op_of hv h
  exact ⟨A, n, c, L, e, ⟨h1, h2, h3⟩, h4, h5, fun hw => (h6 hw).1⟩
theorem intb_arg {H : Type} {enc : TypeId × Value → H} {w : World} {r : Reach} {b : Nat} {held : Bool} {v : Value} {d : DataW H} {p : List MemPlace}
    (hv : Value.okWide Tryd.prog w r b 3 v) (h : DataW.Trod enc Tryd.prog w 0 (fun _ => true) held 3 v d p) : ∃ n, v = .int .i64 n ∧ -9223372036854775808 ≤ n ∧ n ≤ 9223372036854775807 := by
  obtain ⟨r, rfl, _, _, hwr⟩ := Go.ChangeShapes.open_int Tryd.underlying3 hv h
  exact ⟨r, rfl, bounds_i64 hwr⟩

/-- How many bytes the first calls bring. -/
def bsum (L : List OpA) (i : Nat) : Nat := ((L.take i).map fun o => o.m).sum
theorem bsum_succ {L : List OpA} {i : Nat} {o : OpA} (h : L[i]? = some o) : bsum L (i + 1) = bsum L i + o.m := by
  unfold bsum
  rw [List.take_add_one, h]
  simp
/-- What a call does to a writer. -/
def Wr.act (s : Wr) (o : OpA) : Wr := if o.d0 = 1 then s.put o.B else if o.d0 = 3 then s.patch o.at_ o.v o.n else s.num o.v o.n
def acts (s : Wr) (L : List OpA) : Wr := L.foldl Wr.act s
theorem acts_succ {s : Wr} {L : List OpA} {i : Nat} {o : OpA} (h : L[i]? = some o) : acts s (L.take (i + 1)) = (acts s (L.take i)).act o := by
  unfold acts
  rw [List.take_add_one, h, List.foldl_append]
  rfl
theorem put_most (s : Wr) (ys : List Int) : (s.put ys).most = s.most := by unfold Wr.put; split <;> (try split) <;> rfl
theorem act_most (s : Wr) (o : OpA) : (s.act o).most = s.most := by
  unfold Wr.act
  split
  · exact put_most _ _
  · split
    · unfold Wr.patch; split <;> (try split) <;> rfl
    · unfold Wr.num; split <;> (try split) <;> first | rfl | exact put_most _ _
theorem put_len (s : Wr) (ys : List Int) : (s.put ys).xs.length ≤ s.xs.length + ys.length := by
  unfold Wr.put; split
  · split
    · simp
    · simp
  · omega
theorem act_len (s : Wr) (o : OpA) : (s.act o).xs.length ≤ s.xs.length + o.B.length + 4 := by
  unfold Wr.act
  split
  · have := put_len s o.B; omega
  · split
    · unfold Wr.patch; split
      · split
        · next h => 
          have hf : (1 : Int) ≤ o.n ∧ o.n ≤ 4 := by have := h.1; simp [fitsB] at this; omega
          show (pat _ _ _ _).length ≤ _
          rw [pat_length (by omega) (by rw [pb_length]; exact Nat.le_refl _)]; omega
        · simp; omega
      · omega
    · unfold Wr.num; split
      · split
        · have := put_len s ((four o.v).drop (4 - o.n).toNat); simp [four] at this ⊢; omega
        · simp; omega
      · omega
theorem acts_len (s : Wr) (L : List OpA) (hs : s.xs = []) (hm : ∀ o ∈ L, o.B.length = o.m) : ∀ i, (acts s (L.take i)).xs.length ≤ bsum L i + 4 * i := by
  intro i
  induction i with
  | zero => simp [acts, hs]
  | succ i ih =>
    cases h : L[i]? with
    | none =>
      have hl : L.length ≤ i := List.getElem?_eq_none_iff.1 h
      have e1 : L.take (i + 1) = L.take i := by rw [List.take_of_length_le (by omega), List.take_of_length_le hl]
      have e2 : bsum L (i + 1) = bsum L i := by unfold bsum; rw [e1]
      rw [e1, e2]; omega
    | some o =>
      rw [acts_succ h, bsum_succ h]
      have := act_len (acts s (L.take i)) o
      have := hm o (List.mem_of_getElem? h)
      omega
theorem acts_most (s : Wr) (L : List OpA) (i : Nat) : (acts s (L.take i)).most = s.most := by
  induction i with
  | zero => simp [acts]
  | succ i ih =>
    cases h : L[i]? with
    | none =>
      have hl : L.length ≤ i := List.getElem?_eq_none_iff.1 h
      rw [List.take_of_length_le (by omega), ← List.take_of_length_le hl]; exact ih
    | some o => rw [acts_succ h, act_most, ih]

/-- Two writers that hold the same, apart from one another. -/
structure Two (base : Nat) (w : World) (g : Nat) (v : Value) (gd : Nat) (vd : Value) (m : Int) (s : Wr) (t : Wr) : Prop where
  ws : WS base w g v s
  wd : WD base w gd vd m t
  ap : ∀ i, v.ownBlock = some i → vd.ownBlock ≠ some i
theorem Two.later {base g gd : Nat} {w w' : World} {v vd : Value} {m : Int} {s t : Wr} (h : Two base w g v gd vd m s t) (k : Below w.heap.size w w') : Two base w' g v gd vd m s t :=
  ⟨⟨h.ws.1, h.ws.2.1.later k, own_kept h.ws.2.2 (Kept.of_new k (fun _ => False)) (fun _ _ h => h)⟩, h.wd.later k, h.ap⟩
theorem Two.kept {S : Nat → Prop} {base g gd : Nat} {w w' : World} {v vd : Value} {m : Int} {s t : Wr} (h : Two base w g v gd vd m s t) (k : Kept S w w') (h1 : ¬ S g) (h2 : ¬ S gd) (h3 : ∀ i, v.ownBlock = some i → ¬ S i) (h4 : ∀ i, vd.ownBlock = some i → ¬ S i) : Two base w' g v gd vd m s t :=
  ⟨⟨h.ws.1, h.ws.2.1.kept k h1, own_kept h.ws.2.2 k h3⟩, ⟨h.wd.1, h.wd.2.1.kept k h2, own_kept h.wd.2.2 k h4⟩, h.ap⟩
/-- The program's writer was at work. -/
theorem Two.stepW {base g gd : Nat} {w w' : World} {v vd : Value} {m : Int} {s s' t : Wr} (h : Two base w g v gd vd m s t) (p : WPost base w w' g v s') : ∃ v', Two base w' g v' gd vd m s' t := by
  obtain ⟨v', h1, k, h3⟩ := p
  refine ⟨v', h1, ⟨h.wd.1, h.wd.2.1.kept k ?_, own_kept h.wd.2.2 k ?_⟩, ?_⟩
  · rintro (e | e)
    · exact blk_ne h.wd.2.1 h.ws.2.1 (by decide) e
    · exact own_blk_ne h.ws.2.2 h.wd.2.1 (by decide) e
  · rintro i hi (e | e)
    · subst e; exact own_blk_ne h.wd.2.2 h.ws.2.1 (by decide) hi
    · exact h.ap i e hi
  · intro i hi hd
    rcases h3 with e | ⟨j, hj, e⟩
    · rw [e] at hi; exact h.ap i hi hd
    · rw [e] at hi; injection hi with hi; have := (own_ge h.wd.2.2 hd).2; omega
/-- The reference's. -/
theorem Two.stepD {base g gd : Nat} {w w' : World} {v vd : Value} {m : Int} {s t t' : Wr} (h : Two base w g v gd vd m s t) (p : DPost base w w' gd vd m t') : ∃ vd', Two base w' g v gd vd' m s t' := by
  obtain ⟨v', h1, k, h3⟩ := p
  refine ⟨v', ⟨h.ws.1, h.ws.2.1.kept k ?_, own_kept h.ws.2.2 k ?_⟩, h1, ?_⟩
  · rintro (e | e)
    · exact blk_ne h.ws.2.1 h.wd.2.1 (by decide) e
    · exact own_blk_ne h.wd.2.2 h.ws.2.1 (by decide) e
  · rintro i hi (e | e)
    · subst e; exact own_blk_ne h.ws.2.2 h.wd.2.1 (by decide) hi
    · exact h.ap i hi e
  · intro i hi hd
    rcases h3 with e | ⟨j, hj, e⟩
    · rw [e] at hd; exact h.ap i hi hd
    · rw [e] at hd; injection hd with hd; have := (own_ge h.ws.2.2 hi).2; omega
end Go.Proofs.YtlnkjmjddecjdaaDoor
