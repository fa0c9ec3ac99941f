/-
  Rows of states that can be read; EqStates. Printed by gen_eqs.py.
  The bag: all its lists, the rows in them each their own. Printed by gen_bgn.py.
  The reference's store: All. Printed by gen_rst5.py.
  The reference's store: Heads, Due. Printed by gen_rst6.py.
  The reference's store: Due. Printed by gen_rst7.py.
  The reference's store: Next. Printed by gen_rst8.py.
  The order in which states are put counts for nothing; what is put again as it is found stays as it was. No program in sight.
  A store told by a row: what the program's store and the reference's answer is the same. No program in sight.
  A row of states in the order of their keys, with one laid in, put in another's place or taken out. No program in sight.
  A struct stored over one item of a row that is our own.
-/
import Derived.Test.YtpncbggjngamgaaGreatDoorCA07
import Derived.Test.YtpncbggjngamgaaGreatDoorCA05
import Derived.Test.YtpncbggjngamgaaGreatDoorCA01
import Derived.Laws.AppendOwn
import Derived.Test.YtpncbggjngamgaaGreatDoorCA02
import Derived.Test.YtpncbggjngamgaaGreatDoorCA03
import Derived.Laws.CopyRow
import Derived.Laws.Tables
namespace Go.Proofs.YtpncbggjngamgaaGreatDoor
set_option linter.unusedVariables false
open Go.RowKit

theorem stL_len (s : SE) : (stL s).length = 9 := rfl
structure Sts (w : World) (A : Option Addr) (n c : Nat) (ss : List SE) : Prop where
  row : Reads w w.heap.size 9 A n (ss.flatMap stL)
  len : ss.length = n
  cap : n ≤ c ∧ c ≤ 9223372036854775807
  ok : ∀ s ∈ ss, s.rd w
theorem Sts.later {w w' : World} {A : Option Addr} {n c : Nat} {ss : List SE} (h : Sts w A n c ss) (hb : Below w.heap.size w w') : Sts w' A n c ss := ⟨h.row.later hb, h.len, h.cap, fun s hs => (h.ok s hs).later hb⟩
theorem reads_ne_map {w : World} {A : Option Addr} {n : Nat} {ss : List SE} {bm m : Nat} {F : Ky3 → Option Value} (h : Reads w w.heap.size 9 A n (ss.flatMap stL)) (hl : ss.length = n) (hm : MapF keyV w bm F m) : 0 < n → ∀ ad, A = some ad → ad.block ≠ bm := by
  intro h0 ad hA e
  obtain ⟨ad', s, hA', hb, hs, hc, _⟩ := rowG_at stL_len h hl h0
  rw [hA] at hA'
  injection hA' with hA'
  subst hA'
  have hc0 := hc _ rfl
  obtain ⟨es, cl, L, hmm⟩ := hm
  have hh := hmm.heap
  rw [Nat.zero_mul] at hc0
  unfold World.cell? at hc0
  have hblk : (ad.add 0).block = ad.block := block_of_add _ _
  rw [hblk, e, hh] at hc0
  cases hc0
theorem Sts.kept {w w' : World} {A : Option Addr} {n c : Nat} {ss : List SE} {bm m : Nat} {F : Ky3 → Option Value} (h : Sts w A n c ss) (hm : MapF keyV w bm F m) (k : Kept (fun i => i = bm) w w') : Sts w' A n c ss :=
  ⟨h.row.keptUp k (fun h0 ad e hi => reads_ne_map h.row h.len hm h0 ad e hi), h.len, h.cap, fun s hs => (h.ok s hs).kept2 k (fun h0 ad e hi => rd_ne_map (h.ok s hs) hm h0 ad e hi)⟩
theorem Sts.at_ {w : World} {A : Option Addr} {n c i : Nat} {ss : List SE} (h : Sts w A n c ss) (hi : i < n) : ∃ ad s, A = some ad ∧ ss[i]? = some s ∧ s.rd w ∧ StAt w (ad.add (i * 9)) s := by
  obtain ⟨ad, s, e, hb, hs, h0, hj⟩ := rowG_at stL_len h.row h.len hi
  exact ⟨ad, s, e, hs, h.ok s (List.mem_of_getElem? hs), h0 _ rfl, hj 1 _ (by decide) rfl, hj 2 _ (by decide) rfl, hj 3 _ (by decide) rfl, hj 4 _ (by decide) rfl, hj 5 _ (by decide) rfl, hj 6 _ (by decide) rfl, hj 7 _ (by decide) rfl, hj 8 _ (by decide) rfl⟩
theorem eqS_of {s t : SE} (h : s.h = t.h) (hb : s.B = t.B) : eqS s t = true := by
  unfold eqS
  rw [(eqHd_iff s.h t.h).2 h, decide_eq_true hb]
  rfl
theorem eqState_at (s t : SE) (w : World) (hs : s.rd w) (ht : t.rd w) (h : s.h = t.h) (hb : s.B = t.B) : Calls Tryz.prog 20 #[.agg #[.int .u16 s.h.age, .int .u8 s.h.opts, .int .u8 s.h.typ, .int .u32 s.h.id, .int .u32 s.h.adv, .int .i32 s.h.seq, .int .u16 s.h.sum, .int .u16 s.h.len, .slice s.A s.n s.c], .agg #[.int .u16 t.h.age, .int .u8 t.h.opts, .int .u8 t.h.typ, .int .u32 t.h.id, .int .u32 t.h.adv, .int .i32 t.h.seq, .int .u16 t.h.sum, .int .u16 t.h.len, .slice t.A t.n t.c]] w fun e w' => e = .returned (.bool true) ∧ Below w.heap.size w w' := by
  have h1 := eqState_any s t w hs ht
  rw [eqS_of h hb] at h1
  exact h1
set_option maxRecDepth 100000 in
set_option maxHeartbeats 4000000 in
theorem eqStates_any (A B : Option Addr) (n c m d : Nat) (ss ts : List SE) (w : World) (hx : Sts w A n c ss) (hy : Sts w B m d ts) (hh : ss.map SE.h = ts.map SE.h) (hB : ss.map SE.B = ts.map SE.B) :
    Calls Tryz.prog 32 #[.slice A n c, .slice B m d] w fun e w' => e = .returned (.bool true) ∧ Below w.heap.size w w' := by
  have hnm : n = m := by rw [← hx.len, ← hy.len, ← List.length_map (f := SE.h), hh, List.length_map]
  subst hnm
  have HX := Lib.hid hx
  have HY := Lib.hid hy
  have HE : Hid (∀ (i : Nat) (s t : SE), ss[i]? = some s → ts[i]? = some t → s.h = t.h ∧ s.B = t.B) := Lib.hid fun i s t h1 h2 => by
    have e1 := congrArg (fun l => l[i]?) hh
    have e2 := congrArg (fun l => l[i]?) hB
    simp only [List.getElem?_map, h1, h2, Option.map_some] at e1 e2
    injection e1 with e1
    injection e2 with e2
    exact ⟨e1, e2⟩
  have hc := hx.cap
  have hd := hy.cap
  clear hx hy hh hB
  go_enter Tryz.func32, Tryz.ntmps32
  go_wp2
  go_loopw [5] (fun iv wr => ∃ i : Nat, iv = .int .i64 i ∧ i ≤ n ∧ Hid (Below w.heap.size w wr)) (fun iv _ => n - (intOf iv).toNat)
  case atStart => exact ⟨0, rfl, Nat.zero_le _, Lib.hid (Below.refl _ _)⟩
  case round =>
    obtain ⟨i, rfl, hi, hb⟩ := hrel
    by_cases hlt : i < n
    · have hltI : (i : Int) < n := by omega
      obtain ⟨ad, x, hA, hxs, hxr, hxa⟩ := (HX.out.later hb.out).at_ hlt
      obtain ⟨bd, y, hB, hys, hyr, hya⟩ := (HY.out.later hb.out).at_ hlt
      subst hA hB
      have HK := Lib.hid (HE.out i x y hxs hys)
      have hbd : Below wr.heap.size wr wr.drew := (Below.refl _ _).drew
      have HS : Hid ((fun W : World => StAt W (ad.add (i * 9)) x ∧ StAt W (bd.add (i * 9)) y) wr.drew) := Lib.hid ⟨hxa.later hbd, hya.later hbd⟩
      have HR := Lib.hid (And.intro (hxr.later hbd) (hyr.later hbd))
      have HB := Lib.hid hb.out.drew
      clear hxs hys hxa hya hxr hyr hbd
      go_wp2_with fail
      refine wp_region_s (fun W : World => StAt W (ad.add (i * 9)) x ∧ StAt W (bd.add (i * 9)) y) [(0, true), (1, true), (2, true), (4, true), (5, true), (6, true), (3, true), (7, true), (8, false), (9, true)] (by kernel_rfl) (fun _ d _ _ _ h => by cases d <;> exact h) ?_
      simp only [List.map_cons, List.map_nil, nthOp_zero, nthOp_succ]
      generalize wr.drew = w3 at *
      refine wpS_take HS (by kernel_rfl) (by intro W hW; clear hW; go_simp; try with_reducible rfl) ?_
      refine wpS_take HS (by kernel_rfl) (by intro W hW; clear hW; go_simp; try with_reducible rfl) ?_
      refine wpS_take HS (by kernel_rfl) (by intro W hW; clear hW; go_simp; try with_reducible rfl) ?_
      refine wpS_take HS (by kernel_rfl) (by intro W hW; clear hW; go_simp; try with_reducible rfl) ?_
      refine wpS_take HS (by kernel_rfl) (by intro W hW; clear hW; go_simp; try with_reducible rfl) ?_
      refine wpS_take HS (by kernel_rfl) (by intro W hW; clear hW; go_simp; try with_reducible rfl) ?_
      go_simp
      refine wpS_take HS (by kernel_rfl) (by intro W hW; obtain ⟨q0, q1, q2, q3, q4, q5, q6, q7, q8⟩ := hW.1; go_simp; try with_reducible rfl) ?_
      refine wpS_take HS (by kernel_rfl) (by intro W hW; obtain ⟨q0, q1, q2, q3, q4, q5, q6, q7, q8⟩ := hW.2; go_simp; try with_reducible rfl) ?_
      go_simp
      refine wpS_do fun K hK => ?_
      go_wp2_with fail
      refine (eqState_at x y w3 HR.out.1 HR.out.2 HK.out.1 HK.out.2).mono ?_
      rintro e w4 ⟨rfl, hb4⟩
      have HS4 : Hid (StAt w4 (ad.add (i * 9)) x ∧ StAt w4 (bd.add (i * 9)) y) := Lib.hid ⟨HS.out.1.later hb4, HS.out.2.later hb4⟩
      have HB4 := Lib.hid (below_then HB.out hb4)
      clear hb4 HS HB
      go_wp2_with fail
      refine hK.out _ _ HS4.out ?_
      clear hK K
      refine wpS_take HS4 (by kernel_rfl) (by intro W hW; clear hW; go_simp; try with_reducible rfl) ?_
      refine wpS_nil ?_
      go_simp
      go_wp2_with fail
      go_roundw
      case rel => exact ⟨i + 1, by go_num, by omega, HB4⟩
      case measure => simp [intOf]; omega
    · obtain rfl : i = n := by omega
      go_wp2
      go_ret
      exact ⟨rfl, hb.out⟩
end Go.Proofs.YtpncbggjngamgaaGreatDoor
namespace Go.Proofs.YtpncbggjngamgaaGreatDoor
set_option linter.unusedVariables false
open Go.RowKit Go.ChangeShapes Go.WideShapes

/-- A slice. -/
structure Sl where
  A : Option Addr
  n : Nat
  c : Nat
@[reducible] def Sl.v (s : Sl) : Value := .slice s.A s.n s.c
def slv (L : List Sl) : List Value := L.map Sl.v
theorem slv_len (L : List Sl) : (slv L).length = L.length := by simp [slv]
theorem slv_get {L : List Sl} {k : Nat} {s : Sl} (h : L[k]? = some s) : (slv L)[k]? = some s.v := by simp [slv, h]
theorem slv_snoc (L : List Sl) (s : Sl) : slv (L ++ [s]) = slv L ++ [s.v] := by simp [slv]
/-- Rows of unlike elements have unlike blocks. -/
theorem own_ne {W : World} {b b' sz sz' n n' : Nat} {e e' : TypeId} {v v' : Value} {xs xs' : List Value} (h : W.ownsRow b e sz v n xs) (h' : W.ownsRow b' e' sz' v' n' xs') (hne : e ≠ e') : ∀ i, v.ownBlock = some i → v'.ownBlock ≠ some i := by
  intro i hi
  rcases h.2 with ⟨h0, _⟩ | ⟨g, cap, cur, hv, _, hg, _⟩
  · rw [h0] at hi; simp [Value.ownBlock] at hi
  · have : g = i := by rw [hv] at hi; simpa [Value.ownBlock] using hi
    subst this
    exact own_blk_ne h' (show Blk W g e cur from hg) hne.symm
theorem take_one {α : Type} {l : List α} {i : Nat} {x : α} (h : l[i]? = some x) : l.take (i + 1) = l.take i ++ [x] := by rw [List.take_add_one, h]; rfl
theorem own_setc {w : World} {base size n g : Nat} {e t : TypeId} {v : Value} {xs : List Value} {cs : Array Value} (h : w.ownsRow base e size v n xs) (hg : Blk w g t cs) (hne : e ≠ t) (i : Nat) (u : Value) : (w.setCell ⟨g, i, none⟩ u).ownsRow base e size v n xs :=
  own_setCell h hg hne u
/-- The slices' types, the elements' types, the elements' cells, kind by kind. -/
def bty : Nat → TypeId
  | 0 => 59
  | 1 => 114
  | 2 => 116
  | 3 => 117
  | 4 => 119
  | 5 => 120
  | 6 => 121
  | 7 => 89
  | 8 => 75
  | 9 => 124
  | 10 => 127
  | 11 => 130
  | 12 => 133
  | 13 => 136
  | 14 => 87
  | 15 => 139
  | 16 => 142
  | 17 => 147
  | _ => 150
def bel : Nat → TypeId
  | 0 => 5
  | 1 => 3
  | 2 => 4
  | 3 => 9
  | 4 => 2
  | 5 => 56
  | 6 => 123
  | 7 => 58
  | 8 => 68
  | 9 => 126
  | 10 => 129
  | 11 => 132
  | 12 => 135
  | 13 => 138
  | 14 => 61
  | 15 => 141
  | 16 => 146
  | 17 => 149
  | _ => 152
def bsz : Nat → Nat
  | 0 => 1
  | 1 => 1
  | 2 => 1
  | 3 => 1
  | 4 => 1
  | 5 => 1
  | 6 => 1
  | 7 => 8
  | 8 => 3
  | 9 => 4
  | 10 => 1
  | 11 => 1
  | 12 => 1
  | 13 => 1
  | 14 => 9
  | 15 => 1
  | 16 => 1
  | 17 => 1
  | _ => 1
theorem bel_ne : ∀ j k, j < 19 → k < 19 → j ≠ k → bel j ≠ bel k := by
  have h : ∀ j, j < 19 → ∀ k, k < 19 → j ≠ k → bel j ≠ bel k := by decide
  exact fun j k hj hk => h j hj k hk
theorem bty_ne : ∀ j k, j < 19 → k < 19 → j ≠ k → bty j ≠ bty k := by
  have h : ∀ j, j < 19 → ∀ k, k < 19 → j ≠ k → bty j ≠ bty k := by decide
  exact fun j k hj hk => h j hj k hk
theorem bel_bty : ∀ j k, j < 19 → k < 19 → bel j ≠ bty k := by
  have h : ∀ j, j < 19 → ∀ k, k < 19 → bel j ≠ bty k := by decide
  exact fun j k hj hk => h j hj k hk
theorem bel_bag : ∀ j, j < 19 → bel j ≠ 53 := by decide
theorem bty_bag : ∀ j, j < 19 → bty j ≠ 53 := by decide
def updN {α : Type} (G : Nat → α) (j : Nat) (x : α) : Nat → α := fun i => if i = j then x else G i
theorem updN_self {α : Type} (G : Nat → α) (j : Nat) (x : α) : updN G j x j = x := if_pos rfl
theorem updN_ne {α : Type} (G : Nat → α) {i j : Nat} (x : α) (h : i ≠ j) : updN G j x i = G i := if_neg h
/-- The bag at g: its lists, each a row of its own; in each the rows that were gathered, each its own. -/
structure BagN (W : World) (base g : Nat) (G : Nat → Sl) (L : Nat → List Sl) : Prop where
  blk : ∃ C : Array Value, Blk W g 53 C ∧ C.size = 19 ∧ ∀ j, j < 19 → C[j]? = some (G j).v
  row : ∀ j, j < 19 → W.ownsRow base (bty j) 1 (G j).v (G j).n (slv (L j))
  few : ∀ j, j < 19 → (G j).n ≤ 300
  has : ∀ j, j < 19 → ∀ s ∈ L j, ∃ xs, W.ownsRow base (bel j) (bsz j) s.v s.n xs
  sep : ∀ j, j < 19 → ∀ (i k : Nat) (s t : Sl) (b : Nat), (L j)[i]? = some s → (L j)[k]? = some t → i ≠ k → s.v.ownBlock = some b → t.v.ownBlock ≠ some b
  fewN : ∀ j, j < 19 → ∀ s ∈ L j, s.n ≤ 1099511627776
section
variable {W W' : World} {base g : Nat} {G : Nat → Sl} {L : Nat → List Sl}
theorem BagN.cell (h : BagN W base g G L) {j : Nat} (hj : j < 19) : W.cell? ⟨g, j, none⟩ = some (G j).v ∧ W.frozen? ⟨g, j, none⟩ = false := by
  obtain ⟨C, hC, _, hc⟩ := h.blk
  exact ⟨by rw [hC.cell]; exact hc j hj, hC.frozen j⟩
theorem BagN.lt (h : BagN W base g G L) : g < W.heap.size := by obtain ⟨C, hC, _⟩ := h.blk; exact hC.lt
theorem BagN.len (h : BagN W base g G L) {j : Nat} (hj : j < 19) : (L j).length = (G j).n := by have := (h.row j hj).1; rw [slv_len] at this; omega
/-- What the bag writes when a list is added: its own block and its lists' blocks. -/
def BagF (g : Nat) (G : Nat → Sl) (b : Nat) : Prop := b = g ∨ ∃ j, j < 19 ∧ (G j).v.ownBlock = some b
theorem BagN.kept {R : Nat → Prop} (h : BagN W base g G L) (k : Kept R W W') (h0 : ¬ R g) (h1 : ∀ j, j < 19 → ∀ b, (G j).v.ownBlock = some b → ¬ R b) (h2 : ∀ j, j < 19 → ∀ s ∈ L j, ∀ b, s.v.ownBlock = some b → ¬ R b) : BagN W' base g G L := by
  obtain ⟨C, hC, hs, hc⟩ := h.blk
  exact ⟨⟨C, hC.kept k h0, hs, hc⟩, fun j hj => own_kept (h.row j hj) k (h1 j hj), h.few, fun j hj s hsL => (h.has j hj s hsL).imp fun xs hx => own_kept hx k (h2 j hj s hsL), h.sep, h.fewN⟩
theorem BagN.later (h : BagN W base g G L) (hb : Below W.heap.size W W') : BagN W' base g G L := h.kept (Kept.of_new hb (fun _ => False)) (fun h => h) (fun _ _ _ _ h => h) (fun _ _ _ _ _ _ h => h)
theorem BagN.lim (h : BagN W base g G L) {b : Nat} (hb : BagF g G b) : b < W.heap.size := by
  rcases hb with rfl | ⟨j, hj, hb⟩
  · exact h.lt
  · exact (own_ge (h.row j hj) hb).2
/-- One list more. -/
theorem BagN.add {w1 w2 : World} (h : BagN w1 base g G L) {j : Nat} (hj : j < 19) (hn : (G j).n < 300) {l s2 : Sl} {xs : List Value} (hl : w1.ownsRow base (bel j) (bsz j) l.v l.n xs) (hlf : l.n ≤ 1099511627776)
    (hsep : ∀ s ∈ L j, ∀ b, s.v.ownBlock = some b → l.v.ownBlock ≠ some b)
    (ho : w2.ownsRow base (bty j) 1 s2.v ((G j).n + 1) (slv (L j) ++ [l.v])) (hs2 : s2.n = (G j).n + 1) (hg : w1.grownBy w2 (G j).v.ownBlock) (hbl : s2.v.ownBlock = (G j).v.ownBlock ∨ s2.v.ownBlock = some w1.heap.size) :
    BagN (w2.setCell ⟨g, j, none⟩ s2.v) base g (updN G j s2) (updN L j (L j ++ [l])) ∧ Kept (BagF g G) w1 (w2.setCell ⟨g, j, none⟩ s2.v) := by
  obtain ⟨C, hC, hCs, hCc⟩ := h.blk
  have hrow := h.row j hj
  have hne : some g ≠ (G j).v.ownBlock := fun e => own_blk_ne hrow hC (bty_bag j hj) e.symm
  have hC2 : Blk w2 g 53 C := hC.grown hg hne
  have kk : Kept (fun b => (G j).v.ownBlock = some b) w1 w2 := Kept.of_grown hg
  have own2 : ∀ {b' sz n : Nat} {e : TypeId} {v : Value} {ys : List Value}, w1.ownsRow b' e sz v n ys → e ≠ bty j → e ≠ 53 → (w2.setCell ⟨g, j, none⟩ s2.v).ownsRow b' e sz v n ys := fun hr h1 h2 =>
    own_setc (own_kept hr kk (fun i hi hR => own_ne hr hrow h1 i hi hR)) hC2 h2 j _
  refine ⟨⟨⟨_, hC2.set_ j s2.v, by rw [Array.size_setIfInBounds, hCs], fun i hi => ?_⟩, fun i hi => ?_, fun i hi => ?_, fun i hi s hs => ?_, fun i hi a k s t b hs ht hak hb => ?_, fun i hi s hs => ?_⟩, ?_⟩
  · by_cases e : i = j
    · subst e
      rw [updN_self, Array.getElem?_setIfInBounds_self_of_lt (by omega)]
    · rw [updN_ne _ _ e, Array.getElem?_setIfInBounds_ne (fun e2 => e e2.symm)]
      exact hCc i hi
  · by_cases e : i = j
    · subst e
      rw [updN_self, updN_self, hs2, slv_snoc]
      exact own_setc ho hC2 (bty_bag i hi) i _
    · rw [updN_ne _ _ e, updN_ne _ _ e]
      exact own2 (h.row i hi) (bty_ne i j hi hj e) (bty_bag i hi)
  · by_cases e : i = j
    · subst e
      rw [updN_self, hs2]
      omega
    · rw [updN_ne _ _ e]
      exact h.few i hi
  · by_cases e : i = j
    · subst e
      rw [updN_self] at hs
      rcases List.mem_append.1 hs with hs | hs
      · obtain ⟨ys, hy⟩ := h.has i hi s hs
        exact ⟨ys, own2 hy (bel_bty i i hi hi) (bel_bag i hi)⟩
      · rw [List.mem_singleton] at hs
        subst hs
        exact ⟨xs, own2 hl (bel_bty i i hi hi) (bel_bag i hi)⟩
    · rw [updN_ne _ _ e] at hs
      obtain ⟨ys, hy⟩ := h.has i hi s hs
      exact ⟨ys, own2 hy (bel_bty i j hi hj) (bel_bag i hi)⟩
  · by_cases e : i = j
    · subst e
      rw [updN_self] at hs ht
      have hlen : (L i).length = (L i).length := rfl
      by_cases ha : a < (L i).length
      · rw [List.getElem?_append_left ha] at hs
        by_cases hk : k < (L i).length
        · rw [List.getElem?_append_left hk] at ht
          exact h.sep i hi a k s t b hs ht hak hb
        · rw [List.getElem?_append_right (by omega)] at ht
          have h2 := (List.getElem?_eq_some_iff.1 ht).1
          simp at h2
          have h3 : k - (L i).length = 0 := by omega
          rw [h3] at ht
          simp at ht
          subst ht
          exact hsep s (List.mem_of_getElem? hs) b hb
      · rw [List.getElem?_append_right (by omega)] at hs
        have h2 := (List.getElem?_eq_some_iff.1 hs).1
        simp at h2
        have h3 : a - (L i).length = 0 := by omega
        rw [h3] at hs
        simp at hs
        subst hs
        by_cases hk : k < (L i).length
        · rw [List.getElem?_append_left hk] at ht
          exact fun e2 => hsep t (List.mem_of_getElem? ht) b e2 hb
        · rw [List.getElem?_append_right (by omega)] at ht
          have h4 := (List.getElem?_eq_some_iff.1 ht).1
          simp at h4
          omega
    · rw [updN_ne _ _ e] at hs ht
      exact h.sep i hi a k s t b hs ht hak hb
  · by_cases e : i = j
    · subst e
      rw [updN_self] at hs
      rcases List.mem_append.1 hs with hs | hs
      · exact h.fewN i hi s hs
      · rw [List.mem_singleton] at hs
        subst hs
        exact hlf
    · rw [updN_ne _ _ e] at hs
      exact h.fewN i hi s hs
  · exact (kk.mono (T := BagF g G) (fun i _ hi => .inr ⟨j, hj, hi⟩)).setCell (p := ⟨g, j, none⟩) (fun _ => .inl rfl) _
end
/-- The empty bag. -/
def slNil : Sl := ⟨none, 0, 0⟩
theorem BagN.new (w : World) (base : Nat) : BagN (w.alloc (.cells (Array.replicate 19 (.slice none 0 0)) 53)) base w.heap.size (fun _ => slNil) (fun _ => []) := by
  refine ⟨⟨_, Blk.new _ _ _, by simp, fun j hj => ?_⟩, fun j _ => World.ownsRow_nil _ _ _ _, fun j _ => Nat.zero_le _, fun j _ s hs => by simp at hs, fun j _ i k s t b hs => by simp at hs, fun j _ s hs => by simp at hs⟩
  rw [Array.getElem?_replicate, if_pos hj]
  rfl
end Go.Proofs.YtpncbggjngamgaaGreatDoor
namespace Go.Proofs.YtpncbggjngamgaaGreatDoor
set_option linter.unusedVariables false
open Go.RowKit

theorem SE.ok.grown {base b2 size n : Nat} {w w' : World} {s : SE} {e : TypeId} {v : Value} {xs : List Value} (h : s.ok base w) (ho : w.ownsRow b2 e size v n xs) (hne : 5 ≠ e) (hg : w.grownBy w' v.ownBlock) : s.ok base w' :=
  ⟨h.head, own_kept h.body (Kept.of_grown hg) (fun i hi e2 => own_ne h.body ho hne i hi e2), h.oct, h.len⟩
/-- What All has gathered. -/
structure AllR (w : World) (xs : List OneE) (now : Int) (lv iv : Value) (wr : World) : Prop where
  ex : ∃ (i : Nat) (ss : List SE), iv = .int .i64 i ∧ i ≤ xs.length ∧ Hid (ss.map SE.h = (xs.take i).map fun x => x.headAt now) ∧ Hid (ss.map SE.B = (xs.take i).map fun x => x.s.B) ∧ Hid (∀ s ∈ ss, s.ok w.heap.size wr) ∧ Hid (wr.ownsRow w.heap.size 61 9 lv i (ss.flatMap stL))
  below : Hid (Below w.heap.size w wr)
set_option maxRecDepth 100000 in
set_option maxHeartbeats 8000000 in
theorem all11 (base : Nat) (w : World) (g : Nat) (v : Value) (most : Int) (xs : List OneE) (q : RfS base w g v most xs) (now : Int) (hn : 0 ≤ now ∧ now ≤ 9223372036854775807) (hN : xs.length ≤ 1048576) :
    Calls Tryz.prog 33 #[.pointer (some ⟨g, 0, none⟩), .int .i64 now] w fun e w' => ∃ A c, e = .returned (.slice A xs.length c) ∧ ∃ ss, Sts w' A xs.length c ss ∧ ss.map SE.h = xs.map (fun x => x.headAt now) ∧ ss.map SE.B = xs.map (fun x => x.s.B) ∧ Below w.heap.size w w' := by
  obtain ⟨A, n, c, rfl, hl, hc1, hc2⟩ := q.shape
  have HQ := Lib.hid q
  have HL := Lib.hid hl
  have hN2 : n ≤ 1048576 := by omega
  have dn : decide (0 ≤ now) = true := decide_eq_true hn.1
  clear q hl hN
  go_enter Tryz.func33, Tryz.ntmps33
  go_wp2_with fail
  go_loopw [5, 6] (AllR w xs now) (fun _ iv _ => n - (intOf iv).toNat)
  case atStart => exact ⟨⟨0, [], rfl, Nat.zero_le _, Lib.hid rfl, Lib.hid rfl, Lib.hid (by simp), Lib.hid (World.ownsRow_nil _ _ _ _)⟩, Lib.hid (Below.refl _ _)⟩
  case round =>
    obtain ⟨⟨i, ss, rfl, hi, hh, hB, hok, hrow⟩, hb⟩ := hrel
    rw [HL.out] at hi
    generalize wr = wj at *
    have HQj := Lib.hid (HQ.out.later hb.out)
    have g0 := HQj.out.blk.cell 0
    simp only [List.getElem?_toArray, List.getElem?_cons_zero, List.getElem?_cons_succ] at g0
    by_cases hlt : i < n
    · have hltI : (i : Int) < n := by omega
      obtain ⟨ad, x, hA, hxs, hxa⟩ := HQj.out.at_ hlt HL.out
      subst hA
      have HX := Lib.hid hxs
      have hgd := HQj.out.good x (List.mem_of_getElem? hxs)
      have HAt := Lib.hid (at11 x now wj hgd.1 hgd.2 hn)
      obtain ⟨q0, q1, q2, q3, q4, q5, q6, q7, q8, q9⟩ := hxa
      clear hxs hgd
      go_wp2_with fail
      refine HAt.out.mono ?_
      rintro e w3 ⟨s', rfl, h1, h2, h3, h4, h5⟩
      have hsz := hb.out.size
      have HS := Lib.hid (And.intro h1 h3)
      have HO3 := Lib.hid (h2.mono hsz)
      have HR3 := Lib.hid (own_kept hrow.out (Kept.of_new h5 (fun _ => False)) (fun _ _ h => h))
      have HA3 : Hid (∀ s ∈ ss, s.ok w.heap.size w3) := Lib.hid fun s hs => (hok.out s hs).later h5
      have HB3 := Lib.hid (below_then hb.out h5)
      clear h1 h2 h3 h4 h5 HAt q0 q1 q2 q3 q4 q5 q6 q7 q8 q9 g0 hok hrow hsz
      have hb4 : Below w3.heap.size w3 (w3.alloc (.cells #[.int .u16 s'.h.age, .int .u8 s'.h.opts, .int .u8 s'.h.typ, .int .u32 s'.h.id, .int .u32 s'.h.adv, .int .i32 s'.h.seq, .int .u16 s'.h.sum, .int .u16 s'.h.len, .slice s'.A s'.n s'.c] 61)) := (Below.refl _ _).alloc (Nat.le_refl _) _
      have HXr : Hid (Reads (w3.alloc (.cells #[.int .u16 s'.h.age, .int .u8 s'.h.opts, .int .u8 s'.h.typ, .int .u32 s'.h.id, .int .u32 s'.h.adv, .int .i32 s'.h.seq, .int .u16 s'.h.sum, .int .u16 s'.h.len, .slice s'.A s'.n s'.c] 61)) (w3.heap.size + 1) 9 (some ⟨w3.heap.size, 0, none⟩) 1 (stL s')) :=
        Lib.hid ⟨rfl, fun _ => ⟨_, rfl, Nat.lt_succ_self _, fun j u hu => by rw [add_none, Nat.zero_add, (Blk.new w3 61 #[.int .u16 s'.h.age, .int .u8 s'.h.opts, .int .u8 s'.h.typ, .int .u32 s'.h.id, .int .u32 s'.h.adv, .int .i32 s'.h.seq, .int .u16 s'.h.sum, .int .u16 s'.h.len, .slice s'.A s'.n s'.c]).cell]; simpa [stL] using hu⟩⟩
      have HR4 := Lib.hid (HR3.out.alloc (.cells #[.int .u16 s'.h.age, .int .u8 s'.h.opts, .int .u8 s'.h.typ, .int .u32 s'.h.id, .int .u32 s'.h.adv, .int .i32 s'.h.seq, .int .u16 s'.h.sum, .int .u16 s'.h.len, .slice s'.A s'.n s'.c] 61))
      have HO4 := Lib.hid (HO3.out.later hb4)
      have HA4 : Hid (∀ s ∈ ss, s.ok w.heap.size (w3.alloc (.cells #[.int .u16 s'.h.age, .int .u8 s'.h.opts, .int .u8 s'.h.typ, .int .u32 s'.h.id, .int .u32 s'.h.adv, .int .i32 s'.h.seq, .int .u16 s'.h.sum, .int .u16 s'.h.len, .slice s'.A s'.n s'.c] 61))) := Lib.hid fun s hs => (HA3.out s hs).later hb4
      have HB4 := Lib.hid (below_then HB3.out hb4)
      have hb3s : w.heap.size ≤ w3.heap.size := HB3.out.size
      clear hb4 HR3 HO3 HA3 HB3
      go_wp2_with (at_builtin; go_must (refine wpList_app el_state rfl (.tmp 20) (.tmp 30) rfl HR4.out rfl HXr.out rfl (stL_one _) (by simp only [maxLen]; omega) (by omega) (by rw [World.size_alloc]; omega) ?_); intro v' w' ho' hb' hg' _; have H5 := Lib.hid (And.intro ho' (And.intro hb' hg')); clear ho' hb' hg')
      go_roundw
      case rel =>
        refine ⟨⟨i + 1, ss ++ [s'], by go_num, by rw [HL.out]; omega, Lib.hid ?_, Lib.hid ?_, Lib.hid ?_, Lib.hid ?_⟩, Lib.hid (HB4.out.trans H5.out.2.1)⟩
        · rw [take_one HX.out, List.map_append, List.map_append, hh.out, List.map_singleton, List.map_singleton, HS.out.1]
        · rw [take_one HX.out, List.map_append, List.map_append, hB.out, List.map_singleton, List.map_singleton, HS.out.2]
        · intro s hs
          rcases List.mem_append.1 hs with hs | hs
          · exact (HA4.out s hs).grown HR4.out (by decide) H5.out.2.2
          · rw [List.mem_singleton] at hs
            subst hs
            exact HO4.out.grown HR4.out (by decide) H5.out.2.2
        · have h := H5.out.1
          rw [List.flatMap_append]
          simpa using h
      case measure => simp [intOf]; omega
    · obtain rfl : i = n := by omega
      go_wp2_with fail
      go_ret
      obtain ⟨A', c', rfl, k1, k2, k3⟩ := own_shape_n hrow.out
      have ht : xs.take i = xs := List.take_of_length_le (by rw [HL.out]; exact Nat.le_refl _)
      have hsl : ss.length = i := by rw [← List.length_map (f := SE.h), hh.out, List.length_map, ht, HL.out]
      rw [HL.out]
      exact ⟨A', c', rfl, ss, ⟨k3, hsl, ⟨k1, k2⟩, fun s hs => (hok.out s hs).rd⟩, by rw [hh.out, ht], by rw [hB.out, ht], hb.out⟩
end Go.Proofs.YtpncbggjngamgaaGreatDoor
namespace Go.Proofs.YtpncbggjngamgaaGreatDoor
set_option linter.unusedVariables false
open Go.RowKit

theorem wpList_val {P : Program} {ops : Array Oper} {rest : List Oper} {o : Oper} {a : Act} {w : World} {Q : Exit → Act → World → Prop} (hg : o.guard = none) (v : Value)
    (hr : (execOp a.eval o).run P w = .ok (.value v) w) (h : wpList P ops Q rest (a.put o.dst v) w) : wpList P ops Q (o :: rest) a w :=
  wpList_plain hg fun _ hK => by
    unfold Oper.wp
    rw [hr]
    exact hK _ _ h
structure HeadR (w : World) (xs : List OneE) (now : Int) (lv iv : Value) (wr : World) : Prop where
  ex : ∃ i : Nat, iv = .int .i64 i ∧ i ≤ xs.length ∧ Hid (wr.ownsRow w.heap.size 58 8 lv i (((xs.take i).map fun x => x.headAt now).flatMap Hd.cells))
  below : Hid (Below w.heap.size w wr)
set_option maxRecDepth 100000 in
set_option maxHeartbeats 8000000 in
theorem heads11 (base : Nat) (w : World) (g : Nat) (v : Value) (most : Int) (xs : List OneE) (q : RfS base w g v most xs) (now : Int) (hn : 0 ≤ now ∧ now ≤ 9223372036854775807) (hN : xs.length ≤ 1048576) :
    Calls Tryz.prog 35 #[.pointer (some ⟨g, 0, none⟩), .int .i64 now] w fun e w' => ∃ A c, e = .returned (.slice A xs.length c) ∧ Hdl w' A xs.length c (xs.map fun x => x.headAt now) ∧ Below w.heap.size w w' := by
  obtain ⟨A, n, c, rfl, hl, hc1, hc2⟩ := q.shape
  have HQ := Lib.hid q
  have HL := Lib.hid hl
  have hN2 : n ≤ 1048576 := by omega
  have dn : decide (0 ≤ now) = true := decide_eq_true hn.1
  clear q hl hN
  go_enter Tryz.func35, Tryz.ntmps35
  go_wp2_with fail
  go_loopw [5, 6] (HeadR w xs now) (fun _ iv _ => n - (intOf iv).toNat)
  case atStart => exact ⟨⟨0, rfl, Nat.zero_le _, Lib.hid (World.ownsRow_nil _ _ _ _)⟩, Lib.hid (Below.refl _ _)⟩
  case round =>
    obtain ⟨⟨i, rfl, hi, hrow⟩, hb⟩ := hrel
    rw [HL.out] at hi
    generalize wr = wj at *
    have HQj := Lib.hid (HQ.out.later hb.out)
    have g0 := HQj.out.blk.cell 0
    simp only [List.getElem?_toArray, List.getElem?_cons_zero, List.getElem?_cons_succ] at g0
    by_cases hlt : i < n
    · have hltI : (i : Int) < n := by omega
      obtain ⟨ad, x, hA, hxs, hxa⟩ := HQj.out.at_ hlt HL.out
      subst hA
      have HX := Lib.hid hxs
      have hgd := HQj.out.good x (List.mem_of_getElem? hxs)
      have HAt := Lib.hid (at11 x now wj hgd.1 hgd.2 hn)
      obtain ⟨q0, q1, q2, q3, q4, q5, q6, q7, q8, q9⟩ := hxa
      clear hxs hgd
      go_wp2_with fail
      refine HAt.out.mono ?_
      rintro e w3 ⟨s', rfl, h1, h2, h3, h4, h5⟩
      have hsz := hb.out.size
      have HS := Lib.hid (And.intro h1 h3)
      have HR3 := Lib.hid (own_kept hrow.out (Kept.of_new h5 (fun _ => False)) (fun _ _ h => h))
      have HB3 := Lib.hid (below_then hb.out h5)
      clear h1 h2 h3 h4 h5 HAt q0 q1 q2 q3 q4 q5 q6 q7 q8 q9 g0 hrow hsz
      have hb4 : Below w3.heap.size w3 (w3.alloc (.cells #[.int .u16 s'.h.age, .int .u8 s'.h.opts, .int .u8 s'.h.typ, .int .u32 s'.h.id, .int .u32 s'.h.adv, .int .i32 s'.h.seq, .int .u16 s'.h.sum, .int .u16 s'.h.len] 58)) := (Below.refl _ _).alloc (Nat.le_refl _) _
      have HXr : Hid (Reads (w3.alloc (.cells #[.int .u16 s'.h.age, .int .u8 s'.h.opts, .int .u8 s'.h.typ, .int .u32 s'.h.id, .int .u32 s'.h.adv, .int .i32 s'.h.seq, .int .u16 s'.h.sum, .int .u16 s'.h.len] 58)) (w3.heap.size + 1) 8 (some ⟨w3.heap.size, 0, none⟩) 1 (s'.h.cells)) :=
        Lib.hid ⟨rfl, fun _ => ⟨_, rfl, Nat.lt_succ_self _, fun j u hu => by rw [add_none, Nat.zero_add, (Blk.new w3 58 #[.int .u16 s'.h.age, .int .u8 s'.h.opts, .int .u8 s'.h.typ, .int .u32 s'.h.id, .int .u32 s'.h.adv, .int .i32 s'.h.seq, .int .u16 s'.h.sum, .int .u16 s'.h.len]).cell]; simpa [Hd.cells] using hu⟩⟩
      have HR4 := Lib.hid (HR3.out.alloc (.cells #[.int .u16 s'.h.age, .int .u8 s'.h.opts, .int .u8 s'.h.typ, .int .u32 s'.h.id, .int .u32 s'.h.adv, .int .i32 s'.h.seq, .int .u16 s'.h.sum, .int .u16 s'.h.len] 58))
      have HB4 := Lib.hid (below_then HB3.out hb4)
      have hb3s : w.heap.size ≤ w3.heap.size := HB3.out.size
      clear hb4 HR3 HB3
      go_wp2_with (first | (refine wpList_val (o := ⟨some 30, _, _, _, _, _⟩) rfl (.agg #[.int .u16 s'.h.age, .int .u8 s'.h.opts, .int .u8 s'.h.typ, .int .u32 s'.h.id, .int .u32 s'.h.adv, .int .i32 s'.h.seq, .int .u16 s'.h.sum, .int .u16 s'.h.len]) (by kernel_rfl) ?_) | (at_builtin; go_must (refine wpList_app el_head rfl (.tmp 20) (.tmp 31) rfl HR4.out rfl HXr.out rfl (hd_one _) (by simp only [maxLen]; omega) (by omega) (by rw [World.size_alloc]; omega) ?_); intro v' w' ho' hb' hg' _; have H5 := Lib.hid (And.intro ho' (And.intro hb' hg')); clear ho' hb' hg'))
      go_roundw
      case rel =>
        refine ⟨⟨i + 1, by go_num, by rw [HL.out]; omega, Lib.hid ?_⟩, Lib.hid (HB4.out.trans H5.out.2.1)⟩
        have h := H5.out.1
        rw [take_one HX.out, List.map_append, List.flatMap_append, List.map_singleton, ← HS.out.1]
        simpa using h
      case measure => simp [intOf]; omega
    · obtain rfl : i = n := by omega
      go_wp2_with fail
      go_ret
      obtain ⟨A', c', rfl, k1, k2, k3⟩ := own_shape_n hrow.out
      rw [List.take_of_length_le (by rw [HL.out]; exact Nat.le_refl _)] at k3
      rw [HL.out]
      exact ⟨A', c', rfl, ⟨k3, by rw [List.length_map, HL.out], k1, k2⟩, hb.out⟩
end Go.Proofs.YtpncbggjngamgaaGreatDoor
namespace Go.Proofs.YtpncbggjngamgaaGreatDoor
set_option linter.unusedVariables false
open Go.RowKit

/-- The keys of those that are old. -/
def dueL (xs : List OneE) (now : Int) : List Ky3 := (xs.filter fun x => oldA (x.age now)).map fun x => x.s.key
structure DueR (w : World) (xs : List OneE) (now : Int) (lv iv : Value) (wr : World) : Prop where
  ex : ∃ i : Nat, iv = .int .i64 i ∧ i ≤ xs.length ∧ Hid (wr.ownsRow w.heap.size 68 3 lv (dueL (xs.take i) now).length ((dueL (xs.take i) now).flatMap keyC))
  below : Hid (Below w.heap.size w wr)
set_option maxRecDepth 100000 in
set_option maxHeartbeats 8000000 in
theorem due11 (base : Nat) (w : World) (g : Nat) (v : Value) (most : Int) (xs : List OneE) (q : RfS base w g v most xs) (now : Int) (hn : 0 ≤ now ∧ now ≤ 9223372036854775807) (hN : xs.length ≤ 1048576) :
    Calls Tryz.prog 37 #[.pointer (some ⟨g, 0, none⟩), .int .i64 now] w fun e w' => ∃ A n c, e = .returned (.slice A n c) ∧ Kyl w' A n c (dueL xs now) ∧ Below w.heap.size w w' := by
  obtain ⟨A, n, c, rfl, hl, hc1, hc2⟩ := q.shape
  have HQ := Lib.hid q
  have HL := Lib.hid hl
  have hN2 : n ≤ 1048576 := by omega
  have dn : decide (0 ≤ now) = true := decide_eq_true hn.1
  clear q hl hN
  go_enter Tryz.func37, Tryz.ntmps37
  go_wp2_with fail
  go_loopw [5, 6] (DueR w xs now) (fun _ iv _ => n - (intOf iv).toNat)
  case atStart => exact ⟨⟨0, rfl, Nat.zero_le _, Lib.hid (World.ownsRow_nil _ _ _ _)⟩, Lib.hid (Below.refl _ _)⟩
  case round =>
    obtain ⟨⟨i, rfl, hi, hrow⟩, hb⟩ := hrel
    rw [HL.out] at hi
    generalize wr = wj at *
    have HQj := Lib.hid (HQ.out.later hb.out)
    have g0 := HQj.out.blk.cell 0
    simp only [List.getElem?_toArray, List.getElem?_cons_zero, List.getElem?_cons_succ] at g0
    by_cases hlt : i < n
    · have hltI : (i : Int) < n := by omega
      obtain ⟨ad, x, hA, hxs, hxa⟩ := HQj.out.at_ hlt HL.out
      subst hA
      have HX := Lib.hid hxs
      have hgd := HQj.out.good x (List.mem_of_getElem? hxs)
      have HAt := Lib.hid (at11 x now wj hgd.1 hgd.2 hn)
      obtain ⟨q0, q1, q2, q3, q4, q5, q6, q7, q8, q9⟩ := hxa
      clear hxs hgd
      go_wp2_with fail
      refine HAt.out.mono ?_
      rintro e w3 ⟨s', rfl, h1, h2, h3, h4, h5⟩
      have hsz := hb.out.size
      have HS := Lib.hid (And.intro h1 h3)
      have HR3 := Lib.hid (own_kept hrow.out (Kept.of_new h5 (fun _ => False)) (fun _ _ h => h))
      have HB3 := Lib.hid (below_then hb.out h5)
      have HAge := Lib.hid h2.head.age
      clear h1 h2 h3 h4 h5 HAt q0 q1 q2 q3 q4 q5 q6 q7 q8 q9 g0 hrow hsz
      have hb4 : Below w3.heap.size w3 (w3.alloc (.cells #[.int .u16 s'.h.age, .int .u8 s'.h.opts, .int .u8 s'.h.typ, .int .u32 s'.h.id, .int .u32 s'.h.adv, .int .i32 s'.h.seq, .int .u16 s'.h.sum, .int .u16 s'.h.len, .slice s'.A s'.n s'.c] 61)) := (Below.refl _ _).alloc (Nat.le_refl _) _
      have HX4 : Hid (Blk (w3.alloc (.cells #[.int .u16 s'.h.age, .int .u8 s'.h.opts, .int .u8 s'.h.typ, .int .u32 s'.h.id, .int .u32 s'.h.adv, .int .i32 s'.h.seq, .int .u16 s'.h.sum, .int .u16 s'.h.len, .slice s'.A s'.n s'.c] 61)) w3.heap.size 61 #[.int .u16 s'.h.age, .int .u8 s'.h.opts, .int .u8 s'.h.typ, .int .u32 s'.h.id, .int .u32 s'.h.adv, .int .i32 s'.h.seq, .int .u16 s'.h.sum, .int .u16 s'.h.len, .slice s'.A s'.n s'.c]) := Lib.hid (Blk.new _ _ _)
      have HR4 := Lib.hid (own_kept HR3.out (Kept.of_new hb4 (fun _ => False)) (fun _ _ h => h))
      have HB4 := Lib.hid (below_then HB3.out hb4)
      have z0 := HX4.out.cell 0; have z1 := HX4.out.cell 1; have z2 := HX4.out.cell 2; have z3 := HX4.out.cell 3; have z4 := HX4.out.cell 4; have z5 := HX4.out.cell 5; have z6 := HX4.out.cell 6; have z7 := HX4.out.cell 7
      simp only [List.getElem?_toArray, List.getElem?_cons_zero, List.getElem?_cons_succ] at z0 z1 z2 z3 z4 z5 z6 z7
      have HOl := Lib.hid (fun W : World => old05 s'.h.age W HAge.out.1 HAge.out.2)
      have hao : oldA (x.age now) = (yearsOf s'.h.age == 3600) := by rw [HS.out.1]; rfl
      have hkey : (s'.h.typ, s'.h.id, s'.h.adv) = x.s.key := by rw [HS.out.1]; rfl
      clear hb4 HR3 HB3
      obtain ⟨o, ho⟩ : ∃ o, (yearsOf s'.h.age == 3600) = o := ⟨_, rfl⟩
      rw [ho] at HOl hao
      have HAo := Lib.hid (And.intro hao hkey)
      clear ho hao hkey
      cases o with
      | false =>
        go_wp2_with fail
        refine (HOl.out _).mono ?_
        rintro e w' ⟨rfl, rfl⟩
        clear z0 z1 z2 z3 z4 z5 z6 z7
        go_wp2_with fail
        go_roundw
        case rel =>
          refine ⟨⟨i + 1, by go_num, by rw [HL.out]; omega, Lib.hid ?_⟩, HB4⟩
          have h := HR4.out
          rw [show dueL (xs.take (i + 1)) now = dueL (xs.take i) now from by unfold dueL; rw [take_one HX.out, List.filter_append, List.filter_cons_of_neg (by rw [HAo.out.1]; decide), List.filter_nil, List.append_nil]]
          exact h
        case measure => simp [intOf]; omega
      | true =>
        go_wp2_with fail
        refine (HOl.out _).mono ?_
        rintro e w' ⟨rfl, rfl⟩
        go_wp2_with fail
        refine (rkey_hd s'.h _).mono ?_
        rintro e w5 ⟨rfl, hb5⟩
        have HR5 := Lib.hid (own_kept HR4.out (Kept.of_new hb5 (fun _ => False)) (fun _ _ h => h))
        have HB5 := Lib.hid (below_then HB4.out hb5)
        clear hb5 HR4 HB4 z0 z1 z2 z3 z4 z5 z6 z7 HX4
        have hb6 : Below w5.heap.size w5 (w5.alloc (.cells #[.int .u8 s'.h.typ, .int .u32 s'.h.id, .int .u32 s'.h.adv] 68)) := (Below.refl _ _).alloc (Nat.le_refl _) _
        have HXr : Hid (Reads (w5.alloc (.cells #[.int .u8 s'.h.typ, .int .u32 s'.h.id, .int .u32 s'.h.adv] 68)) (w5.heap.size + 1) 3 (some ⟨w5.heap.size, 0, none⟩) 1 (keyC (s'.h.typ, s'.h.id, s'.h.adv))) :=
          Lib.hid ⟨rfl, fun _ => ⟨_, rfl, Nat.lt_succ_self _, fun j u hu => by rw [add_none, Nat.zero_add, (Blk.new w5 68 #[.int .u8 s'.h.typ, .int .u32 s'.h.id, .int .u32 s'.h.adv]).cell]; simpa [keyC] using hu⟩⟩
        have HR6 := Lib.hid (HR5.out.alloc (.cells #[.int .u8 s'.h.typ, .int .u32 s'.h.id, .int .u32 s'.h.adv] 68))
        have HB6 := Lib.hid (below_then HB5.out hb6)
        have hb5s : w.heap.size ≤ w5.heap.size := HB5.out.size
        have hdl : (dueL (xs.take i) now).length ≤ i := by unfold dueL; rw [List.length_map]; refine Nat.le_trans (List.length_filter_le _ _) ?_; rw [List.length_take]; omega
        clear hb6 HR5 HB5
        go_wp2_with (at_builtin; go_must (refine wpList_app el_keyC rfl (.tmp 34) (.tmp 38) rfl HR6.out rfl HXr.out rfl (keyC_one _) (by simp only [maxLen]; omega) (by omega) (by rw [World.size_alloc]; omega) ?_); intro v' w' ho' hb' hg' _; have H7 := Lib.hid (And.intro ho' hb'); clear ho' hb' hg')
        go_roundw
        case rel =>
          refine ⟨⟨i + 1, by go_num, by rw [HL.out]; omega, Lib.hid ?_⟩, Lib.hid (HB6.out.trans H7.out.2)⟩
          have h := H7.out.1
          have e1 : dueL (xs.take (i + 1)) now = dueL (xs.take i) now ++ [x.s.key] := by unfold dueL; rw [take_one HX.out, List.filter_append, List.filter_cons_of_pos (by rw [HAo.out.1]), List.filter_nil, List.map_append, List.map_singleton]
          rw [HAo.out.2] at h
          rw [e1, List.flatMap_append, List.length_append]
          simpa using h
        case measure => simp [intOf]; omega
    · obtain rfl : i = n := by omega
      go_wp2_with fail
      go_ret
      obtain ⟨A', c', rfl, k⟩ := own_keys hrow.out
      rw [List.take_of_length_le (by rw [HL.out]; exact Nat.le_refl _)] at k ⊢
      exact ⟨A', _, c', rfl, k, hb.out⟩
end Go.Proofs.YtpncbggjngamgaaGreatDoor
namespace Go.Proofs.YtpncbggjngamgaaGreatDoor
set_option linter.unusedVariables false
open Go.RowKit

def nextL (xs : List OneE) (now : Int) : Option Int := (xs.map fun x => (x.s.key, x)).foldl (stepW now) none
theorem nextL_snoc (l : List OneE) (x : OneE) (now : Int) : nextL (l ++ [x]) now = stepW now (nextL l now) (x.s.key, x) := by unfold nextL; rw [List.map_append, List.foldl_append]; rfl
set_option maxRecDepth 100000 in
set_option maxHeartbeats 8000000 in
theorem next11 (base : Nat) (w : World) (g : Nat) (v : Value) (most : Int) (xs : List OneE) (q : RfS base w g v most xs) (now : Int) (hn : 0 ≤ now ∧ now ≤ 9223372036854775807) (hN : xs.length ≤ 1048576) :
    Calls Tryz.prog 31 #[.pointer (some ⟨g, 0, none⟩), .int .i64 now] w fun e w' => e = .returned (.tuple #[.int .i64 (nxB (nextL xs now)), .bool (nextL xs now).isSome]) ∧ Below w.heap.size w w' := by
  obtain ⟨A, n, c, rfl, hl, hc1, hc2⟩ := q.shape
  have HQ := Lib.hid q
  have HL := Lib.hid hl
  have hN2 : n ≤ 1048576 := by omega
  have dn : decide (0 ≤ now) = true := decide_eq_true hn.1
  clear q hl hN
  go_enter Tryz.func31, Tryz.ntmps31
  go_wp2_with fail
  go_loopw [6, 7, 8] (fun bv sv iv wr => ∃ (i : Nat) (b : Option Int), bv = .int .i64 (nxB b) ∧ sv = .bool b.isSome ∧ iv = .int .i64 i ∧ i ≤ n ∧ Hid (b = nextL (xs.take i) now) ∧ Hid (Below w.heap.size w wr)) (fun _ _ iv _ => n - (intOf iv).toNat)
  case atStart => exact ⟨0, none, rfl, rfl, rfl, Nat.zero_le _, Lib.hid rfl, Lib.hid (Below.refl _ _)⟩
  case round =>
    obtain ⟨i, b, rfl, rfl, rfl, hi, hbn, hb⟩ := hrel
    generalize wr = wj at *
    have HQj := Lib.hid (HQ.out.later hb.out)
    have g0 := HQj.out.blk.cell 0
    simp only [List.getElem?_toArray, List.getElem?_cons_zero, List.getElem?_cons_succ] at g0
    by_cases hlt : i < n
    · have hltI : (i : Int) < n := by omega
      obtain ⟨ad, x, hA, hxs, hxa⟩ := HQj.out.at_ hlt HL.out
      subst hA
      have HX := Lib.hid hxs
      have hgd := HQj.out.good x (List.mem_of_getElem? hxs)
      have hb4 : Below wj.heap.size wj (wj.alloc (.cells #[.int .u16 x.s.h.age, .int .u8 x.s.h.opts, .int .u8 x.s.h.typ, .int .u32 x.s.h.id, .int .u32 x.s.h.adv, .int .i32 x.s.h.seq, .int .u16 x.s.h.sum, .int .u16 x.s.h.len, .slice x.s.A x.s.n x.s.c, .int .i64 x.at_] 108)) := (Below.refl _ _).alloc (Nat.le_refl _) _
      have HO4 : Hid (Blk (wj.alloc (.cells #[.int .u16 x.s.h.age, .int .u8 x.s.h.opts, .int .u8 x.s.h.typ, .int .u32 x.s.h.id, .int .u32 x.s.h.adv, .int .i32 x.s.h.seq, .int .u16 x.s.h.sum, .int .u16 x.s.h.len, .slice x.s.A x.s.n x.s.c, .int .i64 x.at_] 108)) wj.heap.size 108 #[.int .u16 x.s.h.age, .int .u8 x.s.h.opts, .int .u8 x.s.h.typ, .int .u32 x.s.h.id, .int .u32 x.s.h.adv, .int .i32 x.s.h.seq, .int .u16 x.s.h.sum, .int .u16 x.s.h.len, .slice x.s.A x.s.n x.s.c, .int .i64 x.at_]) := Lib.hid (Blk.new _ _ _)
      have o0 := HO4.out.cell 0; have o1 := HO4.out.cell 1; have o2 := HO4.out.cell 2; have o3 := HO4.out.cell 3; have o4 := HO4.out.cell 4; have o5 := HO4.out.cell 5; have o6 := HO4.out.cell 6; have o7 := HO4.out.cell 7; have o8 := HO4.out.cell 8; have o9 := HO4.out.cell 9
      simp only [List.getElem?_toArray, List.getElem?_cons_zero, List.getElem?_cons_succ] at o0 o1 o2 o3 o4 o5 o6 o7 o8 o9
      have HAt := Lib.hid (at11 x now (wj.alloc (.cells #[.int .u16 x.s.h.age, .int .u8 x.s.h.opts, .int .u8 x.s.h.typ, .int .u32 x.s.h.id, .int .u32 x.s.h.adv, .int .i32 x.s.h.seq, .int .u16 x.s.h.sum, .int .u16 x.s.h.len, .slice x.s.A x.s.n x.s.c, .int .i64 x.at_] 108)) (hgd.1.later hb4) hgd.2 hn)
      have HB4 := Lib.hid (below_then hb.out hb4)
      have HGd := Lib.hid (And.intro hgd.1.head.age hgd.2)
      obtain ⟨q0, q1, q2, q3, q4, q5, q6, q7, q8, q9⟩ := hxa
      clear hxs hgd hb4
      go_wp2_with fail
      refine HAt.out.mono ?_
      rintro e w5 ⟨s', rfl, h1, h2, h3, h4, h5⟩
      have HAge := Lib.hid h2.head.age
      have HO5 := Lib.hid (HO4.out.later h5)
      have HB5 := Lib.hid (below_then HB4.out h5)
      have HS1 := Lib.hid h1
      clear h1 h2 h3 h4 h5 HAt HO4 HB4 q0 q1 q2 q3 q4 q5 q6 q7 q8 q9 g0 o0 o1 o2 o3 o4 o5 o6 o7 o8 o9 hb
      generalize wj.heap.size = b9 at *
      have HOl := Lib.hid (fun W : World => old05 s'.h.age W HAge.out.1 HAge.out.2)
      have hao : oldA (x.age now) = (yearsOf s'.h.age == 3600) := by rw [HS1.out]; rfl
      obtain ⟨o, ho⟩ : ∃ o, (yearsOf s'.h.age == 3600) = o := ⟨_, rfl⟩
      rw [ho] at HOl hao
      have HAo := Lib.hid hao
      clear ho hao
      have o0 := HO5.out.cell 0
      simp only [List.getElem?_toArray, List.getElem?_cons_zero, List.getElem?_cons_succ] at o0
      go_wp2_with (first | (refine wpList_val (o := ⟨some 34, _, _, _, _, _⟩) rfl (.agg #[.int .u16 s'.h.age, .int .u8 s'.h.opts, .int .u8 s'.h.typ, .int .u32 s'.h.id, .int .u32 s'.h.adv, .int .i32 s'.h.seq, .int .u16 s'.h.sum, .int .u16 s'.h.len]) (by kernel_rfl) ?_) | (refine wpList_val (o := ⟨some 35, _, _, _, _, _⟩) rfl (.int .u16 s'.h.age) (by kernel_rfl) ?_))
      refine (HOl.out _).mono ?_
      rintro e w' ⟨rfl, rfl⟩
      clear HOl
      cases o with
      | true =>
        have HST : Hid (stepW now b (x.s.key, x) = b) := Lib.hid (step_no (cand_no (.inr HAo.out)))
        go_wp2_with fail
        go_roundw
        case rel => exact ⟨i + 1, b, rfl, rfl, by go_num, by omega, Lib.hid (by rw [take_one HX.out, nextL_snoc, ← hbn.out]; exact HST.out.symm), HB5⟩
        case measure => simp [intOf]; omega
      | false =>
        by_cases hst : 32768 ≤ x.s.h.age
        · have HST : Hid (stepW now b (x.s.key, x) = b) := Lib.hid (step_no (cand_no (.inl hst)))
          have ds : decide (32768 ≤ x.s.h.age) = true := decide_eq_true hst
          go_wp2_with fail
          refine (still05 x.s.h.age _).mono ?_
          rintro e w' ⟨rfl, rfl⟩
          go_wp2_with fail
          go_roundw
          case rel => exact ⟨i + 1, b, rfl, rfl, by go_num, by omega, Lib.hid (by rw [take_one HX.out, nextL_snoc, ← hbn.out]; exact HST.out.symm), HB5⟩
          case measure => simp [intOf]; omega
        · have ds : decide (32768 ≤ x.s.h.age) = false := decide_eq_false hst
          go_wp2_with fail
          refine (still05 x.s.h.age _).mono ?_
          rintro e w' ⟨rfl, rfl⟩
          have hyg := young HGd.out.1 (by omega) HAo.out
          have HCd : Hid (candE now (x.s.key, x) = true) := Lib.hid (cand_iff.2 ⟨HAo.out, by show x.s.h.age < 32768; omega⟩)
          have hy : yearsOf x.s.h.age = x.s.h.age := by have := HGd.out.1; unfold yearsOf; omega
          have HY := Lib.hid (fun W : World => years05 x.s.h.age W HGd.out.1.1 HGd.out.1.2)
          rw [hy] at HY
          have hew := end_wrap x.s.h.age x.at_ HGd.out.1 HGd.out.2 hyg
          have HEw := Lib.hid hew
          clear o0 hew hy ds
          go_wp2_with fail
          have HS : Hid ((fun W : World => Blk W b9 108 #[.int .u16 x.s.h.age, .int .u8 x.s.h.opts, .int .u8 x.s.h.typ, .int .u32 x.s.h.id, .int .u32 x.s.h.adv, .int .i32 x.s.h.seq, .int .u16 x.s.h.sum, .int .u16 x.s.h.len, .slice x.s.A x.s.n x.s.c, .int .i64 x.at_]) w5.drew) := Lib.hid (HO5.out.later (Below.refl _ _).drew)
          have HB6 := Lib.hid HB5.out.drew
          clear HB5 HO5
          refine wp_region_s (fun W : World => Blk W b9 108 #[.int .u16 x.s.h.age, .int .u8 x.s.h.opts, .int .u8 x.s.h.typ, .int .u32 x.s.h.id, .int .u32 x.s.h.adv, .int .i32 x.s.h.seq, .int .u16 x.s.h.sum, .int .u16 x.s.h.len, .slice x.s.A x.s.n x.s.c, .int .i64 x.at_]) [(0, true), (3, true), (4, true), (5, true), (1, true), (2, true), (6, true), (7, false), (8, true), (9, true)] (by kernel_rfl) (fun _ d _ _ _ h => by cases d <;> exact h) ?_
          simp only [List.map_cons, List.map_nil, nthOp_zero, nthOp_succ]
          generalize w5.drew = w6 at *
          refine wpS_take HS (by kernel_rfl) (by intro W hW; clear hW; go_simp; try with_reducible rfl) ?_
          refine wpS_take HS (by kernel_rfl) (by intro W hW; clear hW; go_simp; try with_reducible rfl) ?_
          refine wpS_take HS (by kernel_rfl) (by intro W hW; clear hW; go_simp; try with_reducible rfl) ?_
          refine wpS_take HS (by kernel_rfl) (by intro W hW; clear hW; go_simp; try with_reducible rfl) ?_
          refine wpS_take HS (by kernel_rfl) (by intro W hW; have o0 := hW.cell 0; have o9 := hW.cell 9; simp only [List.getElem?_toArray, List.getElem?_cons_zero, List.getElem?_cons_succ] at o0 o9; clear hW; go_simp; try with_reducible rfl) ?_
          refine wpS_take HS (by kernel_rfl) (by intro W hW; clear hW; go_simp; try with_reducible rfl) ?_
          refine wpS_take HS (by kernel_rfl) (by intro W hW; have o0 := hW.cell 0; have o9 := hW.cell 9; simp only [List.getElem?_toArray, List.getElem?_cons_zero, List.getElem?_cons_succ] at o0 o9; clear hW; go_simp; try with_reducible rfl) ?_
          refine wpS_do fun K hK => ?_
          go_wp2_with fail
          refine (HY.out w6).mono ?_
          rintro e w' ⟨rfl, rfl⟩
          go_wp2_with fail
          refine hK.out _ _ HS.out ?_
          clear hK K
          refine wpS_take HS (by kernel_rfl) (by intro W hW; clear hW; go_simp; try with_reducible rfl) ?_
          refine wpS_take HS (by kernel_rfl) (by intro W hW; clear hW; go_simp; try with_reducible rfl) ?_
          refine wpS_nil ?_
          go_simp
          have HB5 := HB6
          clear HB6
          rcases HEw.out with ⟨k1, k2, k3⟩ | ⟨k1, k2⟩
          · rw [show IntKind.i64.wrap (wrap64 (x.at_ + 3600) - x.s.h.age) = x.at_ + 3600 - x.s.h.age from (by rw [← IntWalk.i64_left]; exact k2)]
            have HYes := Lib.hid (step_yes (b := b) HCd.out (show x.at_ + 3600 - x.s.h.age ≤ 9223372036854775807 from k1))
            have dt : decide (0 ≤ x.at_ + 3600 - x.s.h.age) = true := decide_eq_true k3
            clear k1 k2 HEw HY HCd HGd HAge HS1 HAo HS
            obtain ⟨t, ht⟩ : ∃ t, x.at_ + 3600 - x.s.h.age = t := ⟨_, rfl⟩
            have het : Hid ((x.s.key, x).2.end_ = t) := Lib.hid ht
            rw [ht] at dt k3 ⊢
            clear ht
            cases b with
            | none =>
              have HST : Hid (stepW now none (x.s.key, x) = some t) := Lib.hid (by rw [HYes.out]; simp only; rw [het.out])
              go_wp2_with fail
              go_roundw
              case rel => exact ⟨i + 1, some t, rfl, rfl, by go_num, by omega, Lib.hid (by rw [take_one HX.out, nextL_snoc, ← hbn.out]; exact HST.out.symm), HB5⟩
              case measure => simp [intOf]; omega
            | some t0 =>
              by_cases hlt0 : t < t0
              · have d7 : decide (t < t0) = true := decide_eq_true hlt0
                have HST : Hid (stepW now (some t0) (x.s.key, x) = some t) := Lib.hid (by rw [HYes.out]; simp only; rw [het.out, if_pos hlt0])
                go_wp2_with fail
                go_roundw
                case rel => exact ⟨i + 1, some t, rfl, rfl, by go_num, by omega, Lib.hid (by rw [take_one HX.out, nextL_snoc, ← hbn.out]; exact HST.out.symm), HB5⟩
                case measure => simp [intOf]; omega
              · have d7 : decide (t < t0) = false := decide_eq_false hlt0
                have HST : Hid (stepW now (some t0) (x.s.key, x) = some t0) := Lib.hid (by rw [HYes.out]; simp only; rw [het.out, if_neg hlt0])
                go_wp2_with fail
                go_roundw
                case rel => exact ⟨i + 1, some t0, rfl, rfl, by go_num, by omega, Lib.hid (by rw [take_one HX.out, nextL_snoc, ← hbn.out]; exact HST.out.symm), HB5⟩
                case measure => simp [intOf]; omega
          · have HST : Hid (stepW now b (x.s.key, x) = b) := Lib.hid (step_wide (show 9223372036854775807 < x.at_ + 3600 - x.s.h.age from k1))
            have k3 : IntKind.i64.wrap (wrap64 (x.at_ + 3600) - x.s.h.age) < 0 := by rw [← IntWalk.i64_left]; exact k2
            clear k2
            obtain ⟨t, ht⟩ : ∃ t, IntKind.i64.wrap (wrap64 (x.at_ + 3600) - x.s.h.age) = t := ⟨_, rfl⟩
            rw [ht] at k3 ⊢
            have dt : decide (0 ≤ t) = false := decide_eq_false (by omega)
            clear ht k1 HEw HY HCd HGd HAge HS1 HAo HS
            go_wp2_with fail
            go_roundw
            case rel => exact ⟨i + 1, b, rfl, rfl, by go_num, by omega, Lib.hid (by rw [take_one HX.out, nextL_snoc, ← hbn.out]; exact HST.out.symm), HB5⟩
            case measure => simp [intOf]; omega
    · obtain rfl : i = n := by omega
      go_wp2_with fail
      go_ret2
      refine ⟨?_, hb.out⟩
      show Ending.returned (.tuple #[.int .i64 (nxB b), .bool b.isSome]) = _
      rw [hbn.out, List.take_of_length_le (by rw [HL.out]; exact Nat.le_refl _)]
end Go.Proofs.YtpncbggjngamgaaGreatDoor
namespace Go.Proofs.YtpncbggjngamgaaGreatDoor
set_option linter.unusedVariables false
open Go.RowKit

def KeysApart (L : List OpS) : Prop := L.Pairwise fun a b => a.s.key ≠ b.s.key
theorem apart_of {L : List OpS} (h : ∀ (i k : Nat) (a b : OpS), k < i → L[i]? = some a → L[k]? = some b → a.s.key ≠ b.s.key) : KeysApart L := by
  unfold KeysApart
  rw [List.pairwise_iff_getElem]
  intro i j hi hj hij e
  exact h j i _ _ hij (List.getElem?_eq_getElem hj) (List.getElem?_eq_getElem hi) e.symm
theorem fillC_at : ∀ (n : Nat) (L : List OpS), L.length = n → KeysApart L → ∀ o ∈ L, fillC L o.s.key = some (o.s.h, o.s.B, max o.now 0) := by
  intro n
  induction n with
  | zero =>
    intro L hl _ o ho
    rw [List.length_eq_zero_iff] at hl
    subst hl
    cases ho
  | succ n ih =>
    intro L hl hp o ho
    rcases List.eq_nil_or_concat L with rfl | ⟨l, a, rfl⟩
    · simp at hl
    · rw [List.concat_eq_append] at *
      rw [fillC_snoc]
      unfold upC
      unfold KeysApart at hp
      rw [List.pairwise_append] at hp
      rcases List.mem_append.1 ho with h | h
      · rw [if_neg (hp.2.2 o h a (by simp))]
        exact ih l (by simp at hl; omega) hp.1 o h
      · rw [List.mem_singleton] at h
        subst h
        rw [if_pos rfl]
theorem fillC_rev {L : List OpS} (h : KeysApart L) : fillC L.reverse = fillC L := by
  have hr : KeysApart L.reverse := by
    unfold KeysApart at *
    rw [List.pairwise_reverse]
    exact h.imp fun hab => hab.symm
  funext k
  cases hk : fillC L k with
  | some c =>
    obtain ⟨o, ho, h1, h2⟩ := fillC_some _ L rfl k c hk
    subst h1
    rw [fillC_at _ _ rfl hr o (List.mem_reverse.2 ho), h2]
  | none =>
    cases hk2 : fillC L.reverse k with
    | none => rfl
    | some c =>
      obtain ⟨o, ho, h1, h2⟩ := fillC_some _ L.reverse rfl k c hk2
      subst h1
      rw [fillC_at _ _ rfl h o (List.mem_reverse.1 ho)] at hk
      cases hk
theorem cont_some (f : Ky3 → Option OneE) (k : Ky3) : (contF f k).isSome = (f k).isSome := by unfold contF; cases f k <;> rfl
theorem cont_at {f f' : Ky3 → Option OneE} (h : contF f = contF f') (t : Int) (k : Ky3) : hAt f t k = hAt f' t k ∧ bAt f k = bAt f' k := by
  have hk := congrFun h k
  unfold contF at hk
  unfold hAt bAt
  cases e : f k with
  | none =>
    cases e' : f' k with
    | none => exact ⟨rfl, rfl⟩
    | some y => rw [e, e'] at hk; cases hk
  | some x =>
    cases e' : f' k with
    | none => rw [e, e'] at hk; cases hk
    | some y =>
      rw [e, e'] at hk
      injection hk with hk
      injection hk with h1 h2
      injection h2 with h2 h3
      simp only [Option.getD_some]
      unfold OneE.headAt OneE.age
      rw [h1, h3]
      exact ⟨rfl, h2⟩
theorem ks_cont {f f' : Ky3 → Option OneE} {n m : Nat} {ks ls : List Ky3} (h : KsOf f n ks) (h2 : KsOf f' m ls) (hs : ∀ k, (f' k).isSome = (f k).isSome) : ls = ks :=
  asc_unique ls ks h2.asc h.asc fun e => by rw [h2.mem, h.mem, hs]
/-- What is held where those of the keys K were put again as they were found. -/
def agC (f : Ky3 → Option OneE) (now : Int) (K : List Ky3) : Ky3 → Option (Hd × List Int × Int) := fun k => if k ∈ K then some (hAt f now k, bAt f k, now) else contF f k
theorem agC_nil (f : Ky3 → Option OneE) (now : Int) : agC f now [] = contF f := by funext k; unfold agC; simp
theorem agC_step {f fj : Ky3 → Option OneE} {now : Int} {ks : List Ky3} {j : Nat} {k : Ky3} {x : SE} (hc : contF fj = agC f now (ks.take j)) (hk : ks[j]? = some k) (h1 : x.h = hAt f now k) (h2 : x.B = bAt f k) :
    contF (updK fj k ⟨x, now⟩) = agC f now (ks.take (j + 1)) := by
  funext k'
  have hq := congrFun hc k'
  unfold contF updK agC at *
  rw [List.take_add_one, hk, Option.toList_some]
  by_cases e : k' = k
  · subst e
    rw [if_pos rfl, if_pos (by simp), Option.map_some, h1, h2]
  · rw [if_neg e, hq]
    by_cases e2 : k' ∈ ks.take j
    · rw [if_pos e2, if_pos (by simp [e2])]
    · rw [if_neg e2, if_neg (by simp [e2, e])]
theorem laterA_comp {a p1 p2 : Int} (ha : 0 ≤ a ∧ a ≤ 65535) (h1 : 0 ≤ p1) (h2 : 0 ≤ p2) : laterA (laterA a p1) p2 = laterA a (p1 + p2) := by
  by_cases h : 32768 ≤ a
  · rw [laterA_same (.inl h), laterA_same (.inl h), laterA_same (.inl h)]
  · have hz : ∀ p, ¬ p < 1 → laterA a p = min (yearsOf a + min p 3600) 3600 := fun p hp => laterA_more h hp
    by_cases e1 : p1 < 1
    · rw [laterA_same (a := a) (p := p1) (.inr e1), show p1 + p2 = p2 by omega]
    · rw [hz p1 e1]
      have hy := years_bound a ha.1
      by_cases e2 : p2 < 1
      · rw [laterA_same (.inr e2), show p1 + p2 = p1 by omega, hz p1 e1]
      · rw [laterA_more (by omega) e2, hz (p1 + p2) (by omega)]
        have : yearsOf (min (yearsOf a + min p1 3600) 3600) = min (yearsOf a + min p1 3600) 3600 := by
          generalize hm : min (yearsOf a + min p1 3600) 3600 = m
          unfold yearsOf
          omega
        rw [this]
        omega
/-- What was put again as it was found is the same for all times to come. -/
theorem again_at {f f' : Ky3 → Option OneE} {now later : Int} {n : Nat} {ks : List Ky3} (hf : FewAt f) (h : KsOf f n ks) (hc : contF f' = agC f now ks) (hn : ∀ k x, f k = some x → x.at_ ≤ now) (hl : now ≤ later) (k : Ky3) :
    hAt f' later k = hAt f later k ∧ bAt f' k = bAt f k ∧ (f' k).isSome = (f k).isSome := by
  have hk := congrFun hc k
  have hm := h.mem k
  have hs := congrArg Option.isSome hk
  rw [cont_some] at hs
  unfold agC at hk hs
  cases e : f k with
  | none =>
    have hnm : k ∉ ks := fun hi => by have := hm.1 hi; rw [e] at this; cases this
    rw [if_neg hnm] at hk hs
    rw [cont_some, e] at hs
    unfold hAt bAt
    cases e' : f' k with
    | none => rw [e]; exact ⟨rfl, rfl, rfl⟩
    | some y => rw [e'] at hs; cases hs
  | some x =>
    have hmk : k ∈ ks := hm.2 (by rw [e]; rfl)
    rw [if_pos hmk] at hk hs
    cases e' : f' k with
    | none => rw [e'] at hs; cases hs
    | some y =>
      unfold contF at hk
      rw [e'] at hk
      injection hk with hk
      injection hk with h1 h2
      injection h2 with h2 h3
      have hx : hAt f now k = x.headAt now := by unfold hAt; rw [e]; rfl
      have hb : bAt f k = x.s.B := by unfold bAt; rw [e]; rfl
      have hage := (hf k x e).2.age
      have hat := hn k x e
      refine ⟨?_, ?_, rfl⟩
      · have g1 : hAt f' later k = y.headAt later := by unfold hAt; rw [e']; rfl
        have g2 : hAt f later k = x.headAt later := by unfold hAt; rw [e]; rfl
        rw [g1, g2]
        unfold OneE.headAt OneE.age
        rw [h1, h3, hx]
        unfold OneE.headAt OneE.age
        simp only
        rw [laterA_comp hage (by omega) (by omega), show now - x.at_ + (later - now) = later - x.at_ by omega]
      · have g1 : bAt f' k = y.s.B := by unfold bAt; rw [e']; rfl
        rw [g1, h2]
end Go.Proofs.YtpncbggjngamgaaGreatDoor
namespace Go.Proofs.YtpncbggjngamgaaGreatDoor
set_option linter.unusedVariables false
open Go.RowKit

/-- The store f holds just what the row xs says, and the row is in its keys' order. -/
structure Link (f : Ky3 → Option OneE) (xs : List OneE) : Prop where
  asc : ∀ (i j : Nat) (x y : OneE), i < j → xs[i]? = some x → xs[j]? = some y → ltK x.s.key y.s.key = true
  key : ∀ k x, f k = some x → x.s.key = k
  same : ∀ k, contF f k = (rowAt xs k).map fun x => (x.s.h, x.s.B, x.at_)
theorem Link.row {f : Ky3 → Option OneE} {xs : List OneE} (l : Link f xs) {i : Nat} {x : OneE} (h : xs[i]? = some x) : rowAt xs x.s.key = some x := by
  unfold rowAt
  rw [List.find?_eq_some_iff_getElem]
  have hi := (List.getElem?_eq_some_iff.1 h).1
  have he := (List.getElem?_eq_some_iff.1 h).2
  refine ⟨by simp, i, hi, he, fun j hj => ?_⟩
  have h1 := l.asc j i _ x hj (List.getElem?_eq_getElem (by omega)) h
  simp only [Bool.not_eq_true', decide_eq_false_iff_not]
  intro e
  rw [e, ltK_irrefl] at h1
  cases h1
theorem Link.at_ {f : Ky3 → Option OneE} {xs : List OneE} (l : Link f xs) {x : OneE} (h : x ∈ xs) : ∃ y, f x.s.key = some y ∧ y.s.h = x.s.h ∧ y.s.B = x.s.B ∧ y.at_ = x.at_ := by
  obtain ⟨i, hi⟩ := List.getElem?_of_mem h
  have h1 := l.same x.s.key
  rw [l.row hi] at h1
  unfold contF at h1
  cases hf : f x.s.key with
  | none => rw [hf] at h1; cases h1
  | some y =>
    rw [hf] at h1
    injection h1 with h1
    injection h1 with h2 h3
    injection h3 with h3 h4
    exact ⟨y, rfl, h2, h3, h4⟩
theorem Link.ks {f : Ky3 → Option OneE} {xs : List OneE} (l : Link f xs) : KsOf f xs.length (xs.map fun x => x.s.key) := by
  refine ⟨fun k => ⟨fun h => ?_, fun h => ?_⟩, fun i j a b hij ha hb => ?_, by rw [List.length_map]⟩
  · obtain ⟨x, hx, rfl⟩ := List.mem_map.1 h
    obtain ⟨y, hy, _⟩ := l.at_ hx
    rw [hy]; rfl
  · have h1 := l.same k
    obtain ⟨y, hy⟩ := Option.isSome_iff_exists.1 h
    unfold contF at h1
    rw [hy] at h1
    cases hr : rowAt xs k with
    | none => rw [hr] at h1; cases h1
    | some x =>
      unfold rowAt at hr
      have hm := List.mem_of_find?_eq_some hr
      have hk := List.find?_some hr
      exact List.mem_map.2 ⟨x, hm, of_decide_eq_true hk⟩
  · rw [List.getElem?_map] at ha hb
    obtain ⟨x, hx, rfl⟩ := Option.map_eq_some_iff.1 ha
    obtain ⟨y, hy, rfl⟩ := Option.map_eq_some_iff.1 hb
    exact l.asc i j x y hij hx hy
theorem Link.heads {f : Ky3 → Option OneE} {xs : List OneE} (l : Link f xs) (t : Int) : (xs.map fun x => x.s.key).map (hAt f t) = xs.map fun x => x.headAt t := by
  rw [List.map_map]
  refine List.map_congr_left fun x hx => ?_
  obtain ⟨y, hy, h1, h2, h3⟩ := l.at_ hx
  show hAt f t x.s.key = x.headAt t
  unfold hAt
  rw [hy]
  show y.headAt t = x.headAt t
  unfold OneE.headAt OneE.age
  rw [h1, h3]
theorem Link.bodies {f : Ky3 → Option OneE} {xs : List OneE} (l : Link f xs) : (xs.map fun x => x.s.key).map (bAt f) = xs.map fun x => x.s.B := by
  rw [List.map_map]
  refine List.map_congr_left fun x hx => ?_
  obtain ⟨y, hy, h1, h2, h3⟩ := l.at_ hx
  show bAt f x.s.key = x.s.B
  unfold bAt
  rw [hy]
  exact h2
theorem Link.due {f : Ky3 → Option OneE} {xs : List OneE} (l : Link f xs) (t : Int) : dueK f t (xs.map fun x => x.s.key) = dueL xs t := by
  unfold dueK dueL
  rw [List.filter_map]
  congr 1
  refine List.filter_congr fun x hx => ?_
  obtain ⟨y, hy, h1, h2, h3⟩ := l.at_ hx
  show oldA (hAt f t x.s.key).age = oldA (x.age t)
  unfold hAt
  rw [hy]
  show oldA (y.headAt t).age = _
  unfold OneE.headAt OneE.age
  rw [h1, h3]
theorem stepW_same {now : Int} {b : Option Int} {k k' : Ky3} {x y : OneE} (h1 : y.s.h = x.s.h) (h2 : y.at_ = x.at_) : stepW now b (k, y) = stepW now b (k', x) := by
  unfold stepW candE OneE.age OneE.end_
  rw [h1, h2]
theorem Link.next {f : Ky3 → Option OneE} {xs : List OneE} (l : Link f xs) (t : Int) : nextK f t (xs.map fun x => x.s.key) = nextL xs t := by
  unfold nextK nextL
  have key : ∀ (ys : List OneE) (b : Option Int), (∀ x ∈ ys, x ∈ xs) → ((ys.map fun x => x.s.key).map (entK f)).foldl (stepW t) b = (ys.map fun x => (x.s.key, x)).foldl (stepW t) b := by
    intro ys
    induction ys with
    | nil => intro b _; rfl
    | cons x r ih =>
      intro b h
      obtain ⟨y, hy, h1, h2, h3⟩ := l.at_ (h x List.mem_cons_self)
      rw [List.map_cons, List.map_cons, List.map_cons, List.foldl_cons, List.foldl_cons]
      have e : stepW t b (entK f x.s.key) = stepW t b (x.s.key, x) := by
        unfold entK
        rw [hy]
        exact stepW_same h1 h3
      rw [e]
      exact ih _ fun z hz => h z (List.mem_cons_of_mem _ hz)
  exact key xs none fun x hx => hx
end Go.Proofs.YtpncbggjngamgaaGreatDoor
namespace Go.Proofs.YtpncbggjngamgaaGreatDoor
set_option linter.unusedVariables false
open Go.RowKit

/-- A row of states in the order of their keys. -/
def AscL (xs : List OneE) : Prop := xs.Pairwise fun a b => ltK a.s.key b.s.key = true
theorem Link.ascL {f : Ky3 → Option OneE} {xs : List OneE} (l : Link f xs) : AscL xs := by
  unfold AscL
  rw [List.pairwise_iff_getElem]
  intro i j hi hj hij
  exact l.asc i j _ _ hij (List.getElem?_eq_getElem hi) (List.getElem?_eq_getElem hj)
theorem AscL.asc {xs : List OneE} (h : AscL xs) : ∀ (i j : Nat) (x y : OneE), i < j → xs[i]? = some x → xs[j]? = some y → ltK x.s.key y.s.key = true := by
  intro i j x y hij hx hy
  unfold AscL at h
  rw [List.pairwise_iff_getElem] at h
  obtain ⟨hi, rfl⟩ := List.getElem?_eq_some_iff.1 hx
  obtain ⟨hj, rfl⟩ := List.getElem?_eq_some_iff.1 hy
  exact h i j hi hj hij
theorem rowAt_some {xs : List OneE} {k : Ky3} {x : OneE} (h : rowAt xs k = some x) : x ∈ xs ∧ x.s.key = k := by
  unfold rowAt at h
  have h2 := List.find?_some h
  exact ⟨List.mem_of_find?_eq_some h, of_decide_eq_true h2⟩
theorem AscL.inj {xs : List OneE} (h : AscL xs) {x y : OneE} (hx : x ∈ xs) (hy : y ∈ xs) (e : x.s.key = y.s.key) : x = y := by
  obtain ⟨i, hi⟩ := List.getElem?_of_mem hx
  obtain ⟨j, hj⟩ := List.getElem?_of_mem hy
  rcases Nat.lt_trichotomy i j with hij | hij | hij
  · have := h.asc i j x y hij hi hj
    rw [e, ltK_irrefl] at this; cases this
  · subst hij
    rw [hi] at hj
    injection hj
  · have := h.asc j i y x hij hj hi
    rw [e, ltK_irrefl] at this; cases this
theorem AscL.rowAt {xs : List OneE} (h : AscL xs) {x : OneE} (hx : x ∈ xs) : rowAt xs x.s.key = some x := by
  cases hr : Go.Proofs.YtpncbggjngamgaaGreatDoor.rowAt xs x.s.key with
  | none =>
    unfold Go.Proofs.YtpncbggjngamgaaGreatDoor.rowAt at hr
    rw [List.find?_eq_none] at hr
    exact absurd (decide_eq_true (rfl : x.s.key = x.s.key)) (hr x hx)
  | some y =>
    obtain ⟨h1, h2⟩ := rowAt_some hr
    rw [h.inj h1 hx h2]
/-- What a row answers, told by its members. -/
theorem AscL.at_iff {xs : List OneE} (h : AscL xs) (k : Ky3) (x : OneE) : Go.Proofs.YtpncbggjngamgaaGreatDoor.rowAt xs k = some x ↔ x ∈ xs ∧ x.s.key = k := by
  constructor
  · exact rowAt_some
  · rintro ⟨h1, rfl⟩
    exact h.rowAt h1
theorem opt_ext {α : Type} {a b : Option α} (h : ∀ x, a = some x ↔ b = some x) : a = b := by
  cases a with
  | none =>
    cases b with
    | none => rfl
    | some y => exact ((h y).2 rfl)
  | some y => exact ((h y).1 rfl).symm
/-- The row with y in the place of what has its key. -/
theorem AscL.set {xs : List OneE} (h : AscL xs) {i : Nat} {x y : OneE} (hx : xs[i]? = some x) (hk : y.s.key = x.s.key) : AscL (xs.set i y) ∧ ∀ k, Go.Proofs.YtpncbggjngamgaaGreatDoor.rowAt (xs.set i y) k = if k = y.s.key then some y else Go.Proofs.YtpncbggjngamgaaGreatDoor.rowAt xs k := by
  have hi := (List.getElem?_eq_some_iff.1 hx).1
  have hA : AscL (xs.set i y) := by
    unfold AscL
    rw [List.pairwise_iff_getElem]
    intro a b ha hb hab
    rw [List.length_set] at ha hb
    rw [List.getElem_set, List.getElem_set]
    by_cases h1 : i = a
    · subst h1
      rw [if_pos rfl, if_neg (by omega), hk]
      exact h.asc i b x _ hab hx (List.getElem?_eq_getElem hb)
    · rw [if_neg h1]
      by_cases h2 : i = b
      · subst h2
        rw [if_pos rfl, hk]
        exact h.asc a i _ x hab (List.getElem?_eq_getElem ha) hx
      · rw [if_neg h2]
        exact h.asc a b _ _ hab (List.getElem?_eq_getElem ha) (List.getElem?_eq_getElem hb)
  have hmem : ∀ z, z ∈ xs.set i y ↔ (z = y ∨ (z ∈ xs ∧ z.s.key ≠ y.s.key)) := by
    intro z
    constructor
    · intro hz
      by_cases e : z.s.key = y.s.key
      · left
        exact hA.inj hz (List.mem_iff_getElem.2 ⟨i, by rw [List.length_set]; exact hi, by simp⟩) e
      · rcases List.mem_or_eq_of_mem_set hz with h1 | h1
        · exact .inr ⟨h1, e⟩
        · exact .inl h1
    · rintro (rfl | ⟨h1, h2⟩)
      · exact List.mem_iff_getElem.2 ⟨i, by rw [List.length_set]; exact hi, by simp⟩
      · obtain ⟨j, hj, rfl⟩ := List.mem_iff_getElem.1 h1
        have hij : i ≠ j := by
          rintro rfl
          have e := (List.getElem?_eq_some_iff.1 hx).2
          rw [e, hk] at h2
          exact h2 rfl
        exact List.mem_iff_getElem.2 ⟨j, by rw [List.length_set]; exact hj, by rw [List.getElem_set, if_neg hij]⟩
  refine ⟨hA, fun k => opt_ext fun z => ?_⟩
  rw [hA.at_iff, hmem]
  by_cases e : k = y.s.key
  · rw [if_pos e]
    constructor
    · rintro ⟨h1 | ⟨_, h2⟩, h3⟩
      · rw [h1]
      · exact absurd (h3.trans e) h2
    · intro h1
      injection h1 with h1
      subst h1
      exact ⟨.inl rfl, e.symm⟩
  · rw [if_neg e, h.at_iff]
    constructor
    · rintro ⟨h1 | ⟨h1, h2⟩, h3⟩
      · subst h1
        exact absurd h3.symm e
      · exact ⟨h1, h3⟩
    · rintro ⟨h1, h3⟩
      exact ⟨.inr ⟨h1, fun h4 => e (h3.symm.trans h4)⟩, h3⟩
/-- The row with y laid at the place where the keys are behind its. -/
theorem AscL.ins {xs : List OneE} (h : AscL xs) {i : Nat} {y : OneE} (h1 : ∀ j x, j < i → xs[j]? = some x → ltK x.s.key y.s.key = true) (h2 : ∀ x, xs[i]? = some x → ltK x.s.key y.s.key = false) (h3 : ∀ x ∈ xs, x.s.key ≠ y.s.key) :
    AscL (xs.take i ++ [y] ++ xs.drop i) ∧ ∀ k, Go.Proofs.YtpncbggjngamgaaGreatDoor.rowAt (xs.take i ++ [y] ++ xs.drop i) k = if k = y.s.key then some y else Go.Proofs.YtpncbggjngamgaaGreatDoor.rowAt xs k := by
  have hfr : ∀ x ∈ xs.take i, ltK x.s.key y.s.key = true := by
    intro x hx
    obtain ⟨j, hj, rfl⟩ := List.mem_iff_getElem.1 hx
    rw [List.length_take] at hj
    rw [List.getElem_take]
    exact h1 j _ (by omega) (List.getElem?_eq_getElem (by omega))
  have hbk : ∀ x ∈ xs.drop i, ltK y.s.key x.s.key = true := by
    intro x hx
    obtain ⟨j, hj, rfl⟩ := List.mem_iff_getElem.1 hx
    rw [List.length_drop] at hj
    rw [List.getElem_drop]
    have hi : i < xs.length := by omega
    have ha := h2 _ (List.getElem?_eq_getElem hi)
    have hm := h3 _ (List.getElem_mem hi)
    have hb : ltK y.s.key xs[i].s.key = true := by
      cases hq : ltK y.s.key xs[i].s.key with
      | true => rfl
      | false => exact absurd (ltK_eq ha hq) hm
    rcases Nat.eq_zero_or_pos j with e | e
    · subst e; exact hb
    · exact ltK_trans hb (h.asc i (i + j) _ _ (by omega) (List.getElem?_eq_getElem hi) (List.getElem?_eq_getElem (by omega)))
  have hA : AscL (xs.take i ++ [y] ++ xs.drop i) := by
    unfold AscL at h ⊢
    rw [List.pairwise_append, List.pairwise_append]
    refine ⟨⟨h.sublist (List.take_sublist i xs), List.pairwise_singleton _ _, fun a ha b hb => ?_⟩, h.sublist (List.drop_sublist i xs), fun a ha b hb => ?_⟩
    · rw [List.mem_singleton] at hb
      subst hb
      exact hfr a ha
    · rcases List.mem_append.1 ha with ha | ha
      · exact ltK_trans (hfr a ha) (hbk b hb)
      · rw [List.mem_singleton] at ha
        subst ha
        exact hbk b hb
  have hmem : ∀ z, z ∈ xs.take i ++ [y] ++ xs.drop i ↔ (z = y ∨ z ∈ xs) := by
    intro z
    constructor
    · intro hz
      rcases List.mem_append.1 hz with hz | hz
      · rcases List.mem_append.1 hz with hz | hz
        · exact .inr (List.mem_of_mem_take hz)
        · exact .inl (List.mem_singleton.1 hz)
      · exact .inr (List.mem_of_mem_drop hz)
    · rintro (rfl | hz)
      · exact List.mem_append_left _ (List.mem_append_right _ (List.mem_singleton.2 rfl))
      · have hz2 := hz
        rw [← List.take_append_drop i xs] at hz
        rcases List.mem_append.1 hz with hz | hz
        · exact List.mem_append_left _ (List.mem_append_left _ hz)
        · exact List.mem_append_right _ hz
  refine ⟨hA, fun k => opt_ext fun z => ?_⟩
  rw [hA.at_iff, hmem]
  by_cases e : k = y.s.key
  · rw [if_pos e]
    constructor
    · rintro ⟨h4 | h4, h5⟩
      · rw [h4]
      · exact absurd (h5.trans e) (h3 z h4)
    · intro h4
      injection h4 with h4
      subst h4
      exact ⟨.inl rfl, e.symm⟩
  · rw [if_neg e, h.at_iff]
    constructor
    · rintro ⟨h4 | h4, h5⟩
      · subst h4
        exact absurd h5.symm e
      · exact ⟨h4, h5⟩
    · rintro ⟨h4, h5⟩
      exact ⟨.inr h4, h5⟩
/-- The row without what stands at a place. -/
theorem AscL.cut {xs : List OneE} (h : AscL xs) {i : Nat} {x : OneE} (hx : xs[i]? = some x) :
    AscL (xs.take i ++ xs.drop (i + 1)) ∧ ∀ k, Go.Proofs.YtpncbggjngamgaaGreatDoor.rowAt (xs.take i ++ xs.drop (i + 1)) k = if k = x.s.key then none else Go.Proofs.YtpncbggjngamgaaGreatDoor.rowAt xs k := by
  have hi := (List.getElem?_eq_some_iff.1 hx).1
  have he := (List.getElem?_eq_some_iff.1 hx).2
  have hA : AscL (xs.take i ++ xs.drop (i + 1)) := by
    rw [← List.eraseIdx_eq_take_drop_succ]
    exact List.Pairwise.sublist (List.eraseIdx_sublist xs i) h
  have hmem : ∀ z, z ∈ xs.take i ++ xs.drop (i + 1) ↔ (z ∈ xs ∧ z.s.key ≠ x.s.key) := by
    intro z
    constructor
    · intro hz
      rcases List.mem_append.1 hz with hz | hz
      · obtain ⟨j, hj, rfl⟩ := List.mem_iff_getElem.1 hz
        rw [List.length_take] at hj
        rw [List.getElem_take]
        refine ⟨List.getElem_mem _, fun e => ?_⟩
        have := h.asc j i _ x (by omega) (List.getElem?_eq_getElem (by omega)) hx
        rw [e, ltK_irrefl] at this
        cases this
      · obtain ⟨j, hj, rfl⟩ := List.mem_iff_getElem.1 hz
        rw [List.length_drop] at hj
        rw [List.getElem_drop]
        refine ⟨List.getElem_mem _, fun e => ?_⟩
        have := h.asc i (i + 1 + j) x _ (by omega) hx (List.getElem?_eq_getElem (by omega))
        rw [e, ltK_irrefl] at this
        cases this
    · rintro ⟨hz, hne⟩
      obtain ⟨j, hj, rfl⟩ := List.mem_iff_getElem.1 hz
      rcases Nat.lt_trichotomy j i with hji | hji | hji
      · exact List.mem_append_left _ (List.mem_iff_getElem.2 ⟨j, by rw [List.length_take]; omega, List.getElem_take⟩)
      · subst hji
        rw [he] at hne
        exact absurd rfl hne
      · refine List.mem_append_right _ (List.mem_iff_getElem.2 ⟨j - (i + 1), by rw [List.length_drop]; omega, ?_⟩)
        rw [List.getElem_drop]
        have e : i + 1 + (j - (i + 1)) = j := by omega
        simp only [e]
  refine ⟨hA, fun k => opt_ext fun z => ?_⟩
  rw [hA.at_iff, hmem]
  by_cases e : k = x.s.key
  · rw [if_pos e]
    constructor
    · rintro ⟨⟨_, h4⟩, h5⟩
      exact absurd (h5.trans e) h4
    · intro h4; cases h4
  · rw [if_neg e, h.at_iff]
    constructor
    · rintro ⟨⟨h4, _⟩, h5⟩
      exact ⟨h4, h5⟩
    · rintro ⟨h4, h5⟩
      exact ⟨⟨h4, fun h6 => e (h5.symm.trans h6)⟩, h5⟩
/-- What the reference's Put leaves: y in the row at its key. -/
def PutRow (xs xs' : List OneE) (y : OneE) : Prop := AscL xs' ∧ ∀ k, Go.Proofs.YtpncbggjngamgaaGreatDoor.rowAt xs' k = if k = y.s.key then some y else Go.Proofs.YtpncbggjngamgaaGreatDoor.rowAt xs k
theorem Link.put {f : Ky3 → Option OneE} {xs xs' : List OneE} {x y : OneE} (l : Link f xs) (h : PutRow xs xs' y) (h1 : x.s.h = y.s.h) (h2 : x.s.B = y.s.B) (h3 : x.at_ = y.at_) {k : Ky3} (hk : y.s.key = k) (hk2 : x.s.key = k) : Link (updK f k x) xs' := by
  refine ⟨h.1.asc, fun k' x' hx' => ?_, fun k' => ?_⟩
  · unfold updK at hx'
    by_cases e : k' = k
    · rw [if_pos e] at hx'
      injection hx' with hx'
      rw [← hx', hk2, e]
    · rw [if_neg e] at hx'
      exact l.key k' x' hx'
  · rw [h.2]
    unfold contF updK
    by_cases e : k' = k
    · rw [if_pos e, if_pos (e.trans hk.symm), Option.map_some, Option.map_some, h1, h2, h3]
    · rw [if_neg e, if_neg (fun e2 => e (e2.trans hk))]
      exact l.same k'
/-- A store without a key. -/
def dropK (f : Ky3 → Option OneE) (k : Ky3) : Ky3 → Option OneE := fun k' => if k' = k then none else f k'
def CutRow (xs xs' : List OneE) (k : Ky3) : Prop := AscL xs' ∧ ∀ k', Go.Proofs.YtpncbggjngamgaaGreatDoor.rowAt xs' k' = if k' = k then none else Go.Proofs.YtpncbggjngamgaaGreatDoor.rowAt xs k'
theorem Link.drop {f : Ky3 → Option OneE} {xs xs' : List OneE} (l : Link f xs) {k : Ky3} (h : CutRow xs xs' k) : Link (dropK f k) xs' := by
  refine ⟨h.1.asc, fun k' x' hx' => ?_, fun k' => ?_⟩
  · unfold dropK at hx'
    by_cases e : k' = k
    · rw [if_pos e] at hx'; cases hx'
    · rw [if_neg e] at hx'
      exact l.key k' x' hx'
  · rw [h.2]
    unfold contF dropK
    by_cases e : k' = k
    · rw [if_pos e, if_pos e]
    · rw [if_neg e, if_neg e]
      exact l.same k'
theorem Link.some_ {f : Ky3 → Option OneE} {xs : List OneE} (l : Link f xs) {k : Ky3} {x : OneE} (h : Go.Proofs.YtpncbggjngamgaaGreatDoor.rowAt xs k = some x) : ∃ z, f k = some z ∧ z.s.h = x.s.h ∧ z.s.B = x.s.B ∧ z.at_ = x.at_ := by
  have h1 := l.same k
  rw [h] at h1
  unfold contF at h1
  cases hf : f k with
  | none => rw [hf] at h1; cases h1
  | some y =>
    rw [hf] at h1
    injection h1 with h1
    injection h1 with h2 h3
    injection h3 with h3 h4
    exact ⟨y, rfl, h2, h3, h4⟩
theorem Link.none_ {f : Ky3 → Option OneE} {xs : List OneE} (l : Link f xs) {k : Ky3} (h : Go.Proofs.YtpncbggjngamgaaGreatDoor.rowAt xs k = none) : f k = none := by
  have h1 := l.same k
  rw [h] at h1
  unfold contF at h1
  cases hf : f k with
  | none => rfl
  | some y => rw [hf] at h1; cases h1
theorem link_nil : Link (fun _ => none) [] := ⟨fun i j x y _ h _ => by simp at h, fun k x h => (by cases h), fun k => rfl⟩
end Go.Proofs.YtpncbggjngamgaaGreatDoor
namespace Go.Proofs.YtpncbggjngamgaaGreatDoor
set_option linter.unusedVariables false
open Go.RowKit

/-- The block behind such a store. -/
def putIn (cur : Array Value) (o : Nat) (cells : Array Value) : Array Value := (cur.toList.take o ++ cells.toList ++ cur.toList.drop (o + cells.size)).toArray
theorem run_storeVar_in {P : Program} (w : World) (g o : Nat) (t ty : TypeId) (cur cells : Array Value) (hg : Blk w g t cur) (hi : (P.info? ty).map (·.size) = some cells.size) (hle : o + cells.size ≤ cur.size) (h1 : ∀ v ∈ cells.toList, v.oneCell' = true) :
    (storeVar ty ⟨g, o, none⟩ (.agg cells)).run P w = .ok () (w.setRow g (putIn cur o cells)) := by
  have := run_storeCells_at (P := P) g o t cells.toList 0 cur w hg (by simpa using hle) h1
  simp only [Nat.add_zero, Array.length_toList] at this
  cases hq : P.info? ty with
  | none => simp [hq] at hi
  | some i =>
    have hs : cells.size = i.size := by simp [hq] at hi; omega
    simp [storeVar, sizeOf, typeInfo, hq, Value.cells, hs, this, putIn]
theorem wpList_store_in {P : Program} {ops : Array Oper} {rest : List Oper} {op : Oper} {a : Act} {w : World} {Q : Exit → Act → World → Prop} (hgd : op.guard = none) (ty : TypeId) (x y : Operand) (ho : op.op = .store ty x y)
    (g o : Nat) (cells : Array Value) (hx : a.eval x = .pointer (some ⟨g, o, none⟩)) (hy : a.eval y = .agg cells)
    (t : TypeId) (cur : Array Value) (hg : Blk w g t cur) (hi : (P.info? ty).map (·.size) = some cells.size) (hle : o + cells.size ≤ cur.size) (h1 : ∀ v ∈ cells.toList, v.oneCell' = true)
    (h : wpList P ops Q rest (a.put op.dst undef) (w.setRow g (putIn cur o cells))) : wpList P ops Q (op :: rest) a w := by
  refine wpList_plain hgd fun K hK => ?_
  unfold Oper.wp execOp
  simp only [ho, hx, hy, Instr.storeAt, Instr.sureAddr, Sem.run_bind, Sem.run_pure, Result.andThen_ok, run_storeVar_in w g o t ty cur cells hg hi hle h1]
  exact hK _ _ h
theorem flat_set {α : Type} {cs : α → List Value} {k : Nat} (hk : ∀ a, (cs a).length = k) (y : α) : ∀ (L : List α) (i : Nat), i < L.length → (L.set i y).flatMap cs = (L.flatMap cs).take (i * k) ++ cs y ++ (L.flatMap cs).drop (i * k + k) := by
  intro L
  induction L with
  | nil => intro i h; simp at h
  | cons a r ih =>
    intro i h
    have ha := hk a
    cases i with
    | zero =>
      rw [List.set_cons_zero, List.flatMap_cons, List.flatMap_cons, Nat.zero_mul, List.take_zero, List.nil_append, Nat.zero_add, ← ha, List.drop_left]
    | succ i =>
      have hi : i < r.length := by simpa using h
      rw [List.set_cons_succ, List.flatMap_cons, List.flatMap_cons, ih i hi]
      have e1 : (i + 1) * k = (cs a).length + i * k := by rw [Nat.add_mul, ha]; omega
      have e2 : (i + 1) * k + k = (cs a).length + (i * k + k) := by rw [e1]; omega
      rw [e2, e1, List.take_length_add_append, List.drop_length_add_append]
      simp only [List.append_assoc]
/-- The row behind such a store, item i now y. -/
theorem own_item {α : Type} {cs : α → List Value} {k : Nat} (hk : ∀ a, (cs a).length = k) {w : World} {base n g c i : Nat} {e : TypeId} {L : List α} (h : w.ownsRow base e k (.slice (some ⟨g, 0, none⟩) n c) n (L.flatMap cs)) (hl : L.length = n) (hi : i < n) (y : α) :
    ∃ cur, Blk w g e cur ∧ i * k + (cs y).toArray.size ≤ cur.size ∧ (w.setRow g (putIn cur (i * k) (cs y).toArray)).ownsRow base e k (.slice (some ⟨g, 0, none⟩) n c) n ((L.set i y).flatMap cs) ∧ Kept (fun b => b = g) w (w.setRow g (putIn cur (i * k) (cs y).toArray)) := by
  have hy := hk y
  rcases h.2 with ⟨h0, _⟩ | ⟨g', cap, cur, hv, hb, hg, h1, h2, h3, h4⟩
  · cases h0
  · injection hv with hv1 hv2 hv3
    injection hv1 with hv1
    injection hv1 with hv1 _ _
    subst hv1 hv3
    have hik : i * k + k ≤ n * k := by rw [← Nat.succ_mul]; exact Nat.mul_le_mul_right _ hi
    have hnc : n * k ≤ cur.size := by rw [h3]; exact Nat.mul_le_mul_right _ h1
    have hX : (L.flatMap cs).length = n * k := by rw [flatG_len hk, hl]
    have hsz : (cs y).toArray.size = k := by simpa using hy
    have hcur : cur.toList = L.flatMap cs ++ cur.toList.drop (n * k) := by rw [← h4, List.take_append_drop]
    refine ⟨cur, hg, by rw [hsz]; omega, ⟨?_, .inr ⟨g, c, _, rfl, hb, setRow_heap w g cur _ e (0, 0) hg, h1, h2, ?_, ?_⟩⟩, ?_⟩
    · rw [flatG_len hk, List.length_set, hl]
    · unfold putIn
      rw [List.size_toArray, List.length_append, List.length_append, List.length_take, List.length_drop, hsz, Array.length_toList, Array.length_toList, hsz]
      omega
    · unfold putIn
      rw [flat_set hk y L i (by omega)]
      simp only [List.toList_toArray]
      rw [hsz]
      have e1 : cur.toList.take (i * k) = (L.flatMap cs).take (i * k) := by
        rw [hcur, List.take_append_of_le_length (by omega)]
      have e2 : cur.toList.drop (i * k + k) = (L.flatMap cs).drop (i * k + k) ++ cur.toList.drop (n * k) := by
        have := congrArg (List.drop (i * k + k)) hcur
        rw [this, List.drop_append_of_le_length (by omega)]
      rw [e1, e2, ← List.append_assoc]
      refine (List.take_append_of_le_length ?_).trans (List.take_of_length_le ?_)
      · simp only [List.length_append, List.length_take, List.length_drop, hX, hy]; omega
      · simp only [List.length_append, List.length_take, List.length_drop, hX, hy]; omega
    · exact (Kept.of_grown (only_setRow w g _)).mono (fun j _ hj => by injection hj with hj; exact hj.symm)
end Go.Proofs.YtpncbggjngamgaaGreatDoor
