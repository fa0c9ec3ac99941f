/-
  AuthLast, walked.
-/
import Derived.Test.YtkgdeneonobibaaLst3
namespace Go.Proofs.Ytkgdeneonobibaa
set_option linter.unusedVariables false
open Go.RowKit

structure OpK where
  d : Int
  r : Int
  s : Int
def OpK.cells (k : OpK) : List Value := [.int .u8 k.d, .int .u32 k.r, .int .u32 k.s]
structure Ops (w : World) (A : Option Addr) (n : Nat) (L : List OpK) : Prop where
  row : Reads w w.heap.size 3 A n (L.flatMap OpK.cells)
  len : L.length = n
  u8 : ∀ k ∈ L, 0 ≤ k.d ∧ k.d ≤ 255
theorem Ops.later {w w' : World} {A : Option Addr} {n : Nat} {L : List OpK} (h : Ops w A n L) (hb : Below w.heap.size w w') : Ops w' A n L := ⟨h.row.later hb, h.len, h.u8⟩
theorem flatOp_get (L : List OpK) : ∀ (i j : Nat) (k : OpK), L[i]? = some k → j < 3 → (L.flatMap OpK.cells)[i * 3 + j]? = k.cells[j]? := by
  induction L with
  | nil => intro i j k h; simp at h
  | cons a L ih =>
    intro i j k h hj
    have h3 : a.cells.length = 3 := rfl
    rw [List.flatMap_cons]
    cases i with
    | zero =>
      simp at h; subst h
      rw [List.getElem?_append_left (by omega)]
      simp
    | succ i =>
      rw [List.getElem?_append_right (by omega), h3]
      have e : (i + 1) * 3 + j - 3 = i * 3 + j := by omega
      rw [e]
      exact ih i j k (by simpa using h) hj
theorem Ops.at_ {w : World} {A : Option Addr} {n i : Nat} {L : List OpK} (h : Ops w A n L) (hi : i < n) : ∃ ad k, A = some ad ∧ Hid (L[i]? = some k) ∧ 0 ≤ k.d ∧ k.d ≤ 255 ∧
    w.cell? (ad.add (i * 3)) = some (.int .u8 k.d) ∧ w.cell? ⟨(ad.add (i * 3)).block, (ad.add (i * 3)).off + 1, none⟩ = some (.int .u32 k.r) ∧ w.cell? ⟨(ad.add (i * 3)).block, (ad.add (i * 3)).off + 2, none⟩ = some (.int .u32 k.s) := by
  obtain ⟨ad, e, hb, hc⟩ := h.row.2 (by omega)
  have hl := h.len
  have hk : L[i]? = some L[i] := List.getElem?_eq_getElem (by omega)
  have hu := h.u8 _ (List.mem_of_getElem? hk)
  have c0 := flatOp_get L i 0 _ hk (by decide)
  have c1 := flatOp_get L i 1 _ hk (by decide)
  have c2 := flatOp_get L i 2 _ hk (by decide)
  refine ⟨ad, L[i], e, hk, hu.1, hu.2, hc _ _ (c0.trans rfl), ?_, ?_⟩
  · exact add_lit ad _ 1 (by decide) ▸ hc _ _ (c1.trans rfl)
  · exact add_lit ad _ 2 (by decide) ▸ hc _ _ (c2.trans rfl)
theorem LastF.kept {S : Nat → Prop} {w w' : World} {g bm : Nat} {f : Int → Option Int} (h : LastF w g bm f) (k : Kept S w w') (hg : ¬ S g) (hm : ¬ S bm) : LastF w' g bm f := by
  obtain ⟨P, h1, h2⟩ := h
  exact ⟨P, ⟨h1.blk.kept k hg, h1.map.kept k hm, h1.nd⟩, h2⟩
theorem Blk.ne_ty {w : World} {g g' : Nat} {t t' : TypeId} {cs cs' : Array Value} (h : Blk w g t cs) (h' : Blk w g' t' cs') (ht : t ≠ t') : g ≠ g' := by
  rintro rfl
  have e : some (Obj.cells cs t) = some (Obj.cells cs' t') := (show w.heap[g]? = some (.cells cs t) from h).symm.trans h'
  injection e with e
  injection e with _ e
  exact ht e
structure LI (w0 w : World) (g bm g2 bm2 gd : Nat) (f f2 : Int → Option Int) (i : Nat) : Prop where
  b : Below w0.heap.size w0 w
  x : LastF w g bm f
  y : LastF w g2 bm2 (fun _ => none)
  d : ∃ D, DL w w0.heap.size gd D ∧ Says D f2 ∧ D.length ≤ i
  om : w0.heap.size ≤ bm
  od : w0.heap.size ≤ gd
  ne : bm ≠ bm2
theorem LI.later {w0 w w' : World} {g bm g2 bm2 gd i : Nat} {f f2 : Int → Option Int} (h : LI w0 w g bm g2 bm2 gd f f2 i) (hb : Below w.heap.size w w') : LI w0 w' g bm g2 bm2 gd f f2 i := by
  obtain ⟨D, h1, h2, h3⟩ := h.d
  exact ⟨below_then h.b hb, h.x.later hb, h.y.later hb, ⟨D, h1.later hb, h2, h3⟩, h.om, h.od, h.ne⟩
theorem LI.more {w0 w : World} {g bm g2 bm2 gd i j : Nat} {f f2 : Int → Option Int} (h : LI w0 w g bm g2 bm2 gd f f2 i) (hij : i ≤ j) : LI w0 w g bm g2 bm2 gd f f2 j := by
  obtain ⟨D, h1, h2, h3⟩ := h.d
  exact ⟨h.b, h.x, h.y, ⟨D, h1, h2, by omega⟩, h.om, h.od, h.ne⟩
theorem LI.setX {w0 w w' : World} {g bm g2 bm2 gd i : Nat} {f f2 f' : Int → Option Int} (h : LI w0 w g bm g2 bm2 gd f f2 i) (hx : LastF w' g bm f') (k : Kept (fun i => i = bm) w w') : LI w0 w' g bm g2 bm2 gd f' f2 i := by
  obtain ⟨D, h1, h2, h3⟩ := h.d
  obtain ⟨P, hP, _⟩ := h.x
  obtain ⟨P2, hP2, _⟩ := h.y
  refine ⟨h.b.trans (k.below (fun i e => by rw [e]; exact h.om) h.b.size), hx, h.y.kept k (fun e => hP.map.ne_blk hP2.blk e.symm) (fun e => h.ne e.symm), ⟨D, ?_, h2, h3⟩, h.om, h.od, h.ne⟩
  obtain ⟨v, b1, b2⟩ := h1.row
  exact ⟨v, b1.kept k (fun e => hP.map.ne_blk b1 e.symm), own_kept b2 k (fun q hq e => own_ne_map hP.map b2 (by rw [hq, e]))⟩
theorem LI.setD {w0 w w' : World} {g bm g2 bm2 gd i j : Nat} {f f2 f' : Int → Option Int} {D : List (Int × Int)} (h : LI w0 w g bm g2 bm2 gd f f2 i) (hd : DL w' w0.heap.size gd D) (hs : Says D f') (hj : D.length ≤ j) (k : Kept (fun i => i = gd) w w') : LI w0 w' g bm g2 bm2 gd f f' j := by
  obtain ⟨D0, h1, h2, h3⟩ := h.d
  obtain ⟨P, hP, _⟩ := h.x
  obtain ⟨P2, hP2, _⟩ := h.y
  obtain ⟨v, b1, b2⟩ := h1.row
  exact ⟨h.b.trans (k.below (fun i e => by rw [e]; exact h.od) h.b.size), h.x.kept k (Blk.ne_ty hP.blk b1 (by decide)) (fun e => hP.map.ne_blk b1 e), h.y.kept k (Blk.ne_ty hP2.blk b1 (by decide)) (fun e => hP2.map.ne_blk b1 e), ⟨D, hd, hs, hj⟩, h.om, h.od, h.ne⟩
theorem LI.boxX {w0 w w' : World} {g bm g2 bm2 gd i q : Nat} {t : TypeId} {cs : Array Value} {f f2 : Int → Option Int} (h : LI w0 w g bm g2 bm2 gd f f2 i) (hb : Blk w q t cs) (k : Kept (fun i => i = bm) w w') : Blk w' q t cs := by
  obtain ⟨P, hP, _⟩ := h.x
  exact hb.kept k (fun e => hP.map.ne_blk hb e.symm)
theorem LI.boxD {w0 w w' : World} {g bm g2 bm2 gd i q : Nat} {t : TypeId} {cs : Array Value} {f f2 : Int → Option Int} (h : LI w0 w g bm g2 bm2 gd f f2 i) (hb : Blk w q t cs) (ht : t ≠ 54) (k : Kept (fun i => i = gd) w w') : Blk w' q t cs := by
  obtain ⟨D, h1, _, _⟩ := h.d
  obtain ⟨v, b1, _⟩ := h1.row
  exact hb.kept k (Blk.ne_ty hb b1 ht)
theorem getF_any (w : World) (g bm : Nat) (f : Int → Option Int) (r : Int) (h : LastF w g bm f) : Calls Try.prog 23 #[.pointer (some ⟨g, 0, none⟩), .int .u32 r] w fun e w' => e = .returned (getV (f r)) ∧ w = w' := by
  obtain ⟨P, h1, h2⟩ := h
  rw [← says_get h2]
  exact getM_any w g bm P r h1
theorem LI.getD {w0 w : World} {g bm g2 bm2 gd i : Nat} {f f2 : Int → Option Int} (h : LI w0 w g bm g2 bm2 gd f f2 i) (r : Int) : Calls Try.prog 28 #[.pointer (some ⟨gd, 0, none⟩), .int .u32 r] w fun e w' => e = .returned (getV (f2 r)) ∧ w = w' := by
  obtain ⟨D, h1, h2, h3⟩ := h.d
  rw [← says_get h2]
  exact refGet_any w _ gd D r h1
theorem LI.forgetD {w0 w : World} {g bm g2 bm2 gd i : Nat} {f f2 : Int → Option Int} (h : LI w0 w g bm g2 bm2 gd f f2 i) (hi : i ≤ 2000) (r : Int) : Calls Try.prog 26 #[.pointer (some ⟨gd, 0, none⟩), .int .u32 r] w fun e w' => e = .returned (.tuple #[]) ∧ LI w0 w' g bm g2 bm2 gd f (upd f2 r none) (i + 1) := by
  obtain ⟨D, h1, h2, h3⟩ := h.d
  refine (refForget_any w _ gd D r (by omega) h1).mono ?_
  rintro e w' ⟨rfl, hd, hk⟩
  exact ⟨rfl, h.setD (hd.mono h.b.size) (says_fgt h2 r) (by have := fgt_len D r; omega) hk⟩
theorem LI.takeD {w0 w : World} {g bm g2 bm2 gd i : Nat} {f f2 : Int → Option Int} (h : LI w0 w g bm g2 bm2 gd f f2 i) (hi : i ≤ 2000) (r s : Int) : Calls Try.prog 27 #[.pointer (some ⟨gd, 0, none⟩), .int .u32 r, .int .u32 s] w fun e w' => e = .returned (.int .i64 (takeE (f2 r) s)) ∧ LI w0 w' g bm g2 bm2 gd f (takeF f2 r s) (i + 1) ∧ Kept (fun i => i = gd) w w' := by
  obtain ⟨D, h1, h2, h3⟩ := h.d
  refine (refTake_any w _ gd D f2 r s h.b.size (by omega) h1 h2).mono ?_
  rintro e w' ⟨rfl, ⟨D', hd, hs, hl⟩, hk⟩
  exact ⟨rfl, h.setD hd hs (by omega) hk, hk⟩
theorem LI.start {w w1 w2 : World} {g bm g2 bm2 : Nat} (h1 : LastM w1 g bm []) (h2 : LastM w2 g2 bm2 []) (o1 : w.heap.size ≤ bm) (o2 : w1.heap.size ≤ bm2) (b1 : Below w.heap.size w w1) (b2 : Below w1.heap.size w1 w2) :
    LI w (w2.alloc (.cells #[.slice none 0 0] 54)) g bm g2 bm2 w2.heap.size (fun _ => none) (fun _ => none) 0 := by
  have bb := below_then b1 b2
  have b3 : Below w2.heap.size w2 (w2.alloc (.cells #[.slice none 0 0] 54)) := (Below.refl _ _).alloc (Nat.le_refl _) _
  have hs : Says [] (fun _ => none) := fun q t => by simp
  refine ⟨below_then bb b3, ⟨[], (h1.later b2).later b3, hs⟩, ⟨[], h2.later b3, hs⟩, ⟨[], ⟨⟨_, Blk.new _ _ _, World.ownsRow_nil _ _ _ _⟩⟩, hs, Nat.le_refl _⟩, o1, bb.size, ?_⟩
  have := h1.map.lt
  omega
def LaRel (w0 : World) (g bm g2 bm2 gd n : Nat) (i : Value) (wr : World) : Prop := ∃ (j : Nat) (f : Int → Option Int), i = .int .i64 j ∧ j ≤ n ∧ LI w0 wr g bm g2 bm2 gd f f j
def InRel (w : World) (n : Nat) (i : Value) (wr : World) : Prop := ∃ j : Nat, i = .int .i64 j ∧ j ≤ n ∧ wr = w
end Go.Proofs.Ytkgdeneonobibaa
