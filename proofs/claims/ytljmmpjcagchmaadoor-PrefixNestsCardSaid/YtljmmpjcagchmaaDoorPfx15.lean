/-
  Best of the program and of the reference, walked.
-/
import Derived.Test.YtljmmpjcagchmaaDoorPfx4
namespace Go.Proofs.YtljmmpjcagchmaaDoor
set_option linter.unusedVariables false
open Go.RowKit

@[reducible] def Pf.cells (p : Pf) : List Value := [.int .u32 p.a, .int .u8 p.n]
/-- The slice A n reads as the prefixes L. -/
structure Pfs (w : World) (A : Option Addr) (n : Nat) (L : List Pf) : Prop where
  row : Reads w w.heap.size 2 A n (L.flatMap Pf.cells)
  len : L.length = n
  ok : ∀ p ∈ L, p.ok
theorem Pfs.later {w w' : World} {A : Option Addr} {n : Nat} {L : List Pf} (h : Pfs w A n L) (hb : Below w.heap.size w w') : Pfs w' A n L := ⟨h.row.later hb, h.len, h.ok⟩
theorem flat2_get (L : List Pf) (i j : Nat) (k : Pf) (u : Value) (hk : L[i]? = some k) (hu : k.cells[j]? = some u) (hj : j < 2) : (L.flatMap Pf.cells)[i * 2 + j]? = some u := by
  induction L generalizing i with
  | nil => simp at hk
  | cons a r ih =>
    rw [List.flatMap_cons]
    cases i with
    | zero =>
      simp at hk; subst hk
      rw [List.getElem?_append_left (by simp [Pf.cells]; omega)]
      simpa using hu
    | succ i =>
      simp at hk
      rw [List.getElem?_append_right (by simp [Pf.cells]; omega)]
      have : (i + 1) * 2 + j - a.cells.length = i * 2 + j := by simp [Pf.cells]; omega
      rw [this]
      exact ih i hk
theorem add_lit2 (ad : Addr) (x j : Nat) (hj : 0 < j) : ad.add (x + j) = ⟨(ad.add x).block, (ad.add x).off + j, none⟩ := by
  unfold Addr.add
  by_cases h : x = 0
  · subst h; simp; omega
  · rw [if_neg (by omega), if_neg h]; simp [Nat.add_assoc]
theorem Pfs.cells_at {w : World} {ad : Addr} {n i : Nat} {L : List Pf} {p : Pf} (h : Pfs w (some ad) n L) (hk : L[i]? = some p) :
    w.cell? (ad.add (i * 2)) = some (.int .u32 p.a) ∧ w.cell? ⟨(ad.add (i * 2)).block, (ad.add (i * 2)).off + 1, none⟩ = some (.int .u8 p.n) := by
  have hi : i < n := by
    have := h.len
    have := (List.getElem?_eq_some_iff.1 hk).1
    omega
  obtain ⟨ad', e, hb, hc⟩ := h.row.2 (by omega)
  injection e with e; subst e
  have H : ∀ j u, j < 2 → p.cells[j]? = some u → w.cell? (ad.add (i * 2 + j)) = some u := fun j u hj hu => hc _ _ (flat2_get L i j _ u hk hu hj)
  exact ⟨H 0 _ (by decide) rfl, add_lit2 ad _ 1 (by decide) ▸ H 1 _ (by decide) rfl⟩
theorem Pfs.some_ {w : World} {A : Option Addr} {n : Nat} {L : List Pf} (h : Pfs w A n L) (hn : 0 < n) : ∃ ad, A = some ad ∧ ad.block < w.heap.size := by
  obtain ⟨ad, e, hb, _⟩ := h.row.2 hn
  exact ⟨ad, e, hb⟩
/-- The best of the first i. -/
def bestTo (L : List Pf) (b : Nat) : Nat → Option Nat
  | 0 => none
  | i + 1 => match L[i]? with
    | none => bestTo L b i
    | some p => if hasP p.a p.n b = true then (match bestTo L b i with
        | none => some i
        | some m => match L[m]? with
          | some o => if o.n < p.n then some i else some m
          | none => some m) else bestTo L b i
theorem best_no {L : List Pf} {b i : Nat} {p : Pf} (h : L[i]? = some p) (hh : hasP p.a p.n b = false) : bestTo L b (i + 1) = bestTo L b i := by rw [bestTo, h]; simp [hh]
theorem best_first {L : List Pf} {b i : Nat} {p : Pf} (h : L[i]? = some p) (hh : hasP p.a p.n b = true) (hn : bestTo L b i = none) : bestTo L b (i + 1) = some i := by rw [bestTo, h, hn]; simp [hh]
theorem best_next {L : List Pf} {b i m : Nat} {p o : Pf} (h : L[i]? = some p) (hh : hasP p.a p.n b = true) (hn : bestTo L b i = some m) (ho : L[m]? = some o) : bestTo L b (i + 1) = if o.n < p.n then some i else some m := by rw [bestTo, h, hn]; simp [hh, ho]
theorem bestTo_ok (L : List Pf) (b : Nat) : ∀ i m, bestTo L b i = some m → m < i ∧ ∃ o, L[m]? = some o := by
  intro i
  induction i with
  | zero => intro m h; cases h
  | succ i ih =>
    intro m h
    cases hp : L[i]? with
    | none =>
      rw [bestTo, hp] at h
      obtain ⟨h1, h2⟩ := ih m h
      exact ⟨by omega, h2⟩
    | some p =>
      cases hh : hasP p.a p.n b
      · rw [best_no hp hh] at h
        obtain ⟨h1, h2⟩ := ih m h
        exact ⟨by omega, h2⟩
      · cases hb : bestTo L b i with
        | none =>
          rw [best_first hp hh hb] at h
          injection h with h; subst h
          exact ⟨by omega, p, hp⟩
        | some m' =>
          obtain ⟨h1, o, h2⟩ := ih m' hb
          rw [best_next hp hh hb h2] at h
          split at h
          · injection h with h; subst h; exact ⟨by omega, p, hp⟩
          · injection h with h; subst h; exact ⟨by omega, o, h2⟩
def bestV (o : Option Nat) : Int := match o with | none => -1 | some m => m
def BsRel (w : World) (L : List Pf) (b n : Nat) (v i : Value) (wr : World) : Prop := ∃ k : Nat, i = .int .i64 k ∧ k ≤ n ∧ v = .int .i64 (bestV (bestTo L b k)) ∧ Below w.heap.size w wr
structure S5 (ad : Addr) (n : Nat) (L : List Pf) (g : Nat) (p : Pf) (W : World) : Prop where
  keys : Pfs W (some ad) n L
  box : Blk W g 31 #[.int .u32 p.a, .int .u8 p.n]
theorem S5.later {ad : Addr} {n : Nat} {L : List Pf} {g : Nat} {p : Pf} {W W' : World} (h : S5 ad n L g p W) (hb : Below W.heap.size W W') : S5 ad n L g p W' := ⟨h.keys.later hb, h.box.later hb⟩

set_option maxRecDepth 100000 in
set_option maxHeartbeats 4000000 in
theorem best_any (A : Option Addr) (n c : Nat) (L : List Pf) (b : Nat) (w : World) (hL : Pfs w A n L) (hb : b < 4294967296) (hn : n ≤ 1000000) :
    Calls Tryd.prog 9 #[.slice A n c, .int .u32 b] w fun e w' => e = .returned (.int .i64 (bestV (bestTo L b n))) ∧ Below w.heap.size w w' := by
  have HL := Lib.hid hL
  clear hL
  go_enter Tryd.func9, Tryd.ntmps9
  go_wp2
  go_loopw [5, 10] (BsRel w L b n) (fun _ i _ => n - (intOf i).toNat)
  case atStart => exact ⟨0, rfl, by omega, rfl, Below.refl _ _⟩
  case round =>
    obtain ⟨k, rfl, hk, rfl, hbw⟩ := hrel
    by_cases hlt : k < n
    · have hlti : (k : Int) < n := by omega
      have HLr := Lib.hid (HL.out.later hbw)
      obtain ⟨ad, rfl, hadb⟩ := HLr.out.some_ (by omega)
      have hkl : k < L.length := by have := HL.out.len; omega
      obtain ⟨p, hp⟩ : ∃ p, L[k]? = some p := ⟨L[k], List.getElem?_eq_getElem hkl⟩
      have hpo := HL.out.ok p (List.mem_of_getElem? hp)
      have hk := Lib.hid hp
      have hwr : (k : Int) + 1 ≤ 9223372036854775807 := by omega
      obtain ⟨r0, r1⟩ := HLr.out.cells_at hp
      have hno := best_no (b := b) hp
      have hfi := best_first (b := b) hp
      have hne := fun m o => best_next (b := b) (m := m) (o := o) hp
      have HH : Hid (∀ W : World, Calls Tryd.prog 23 #[.agg #[.int .u32 p.a, .int .u8 p.n], .int .u32 b] W fun e w' => e = .returned (.bool (hasP p.a p.n b)) ∧ Below W.heap.size W w') := fun W => has_any p b W hpo hb
      clear hp hpo
      obtain ⟨pa, pn⟩ := p
      simp only at r0 r1 hno hfi hne HH
      generalize hasP pa pn b = h at *
      cases h
      · have hv := Lib.hid (hno rfl)
        clear hno hfi hne
        generalize bestTo L b k = bo at *
        obtain ⟨bi, hbi⟩ : ∃ z, z = bestV bo := ⟨_, rfl⟩
        rw [← hbi]
        go_wp2
        have HS0 : Hid (S5 ad n L wr.heap.size ⟨pa, pn⟩ (wr.alloc (.cells #[.int .u32 pa, .int .u8 pn] 31)).drew) := ⟨HLr.out.later (((Below.refl _ _).alloc (Nat.le_refl _) _).drew), Blk.new _ _ _⟩
        have HB0 : Hid (Below w.heap.size w (wr.alloc (.cells #[.int .u32 pa, .int .u8 pn] 31)).drew) := ((hbw.alloc hbw.size _).drew)
        refine wp_region_s (S5 ad n L wr.heap.size ⟨pa, pn⟩) [(1, true), (0, true), (2, false), (3, true), (4, true), (5, true), (6, true), (7, true), (9, true), (10, true), (11, true), (12, true), (8, true), (13, true), (14, true), (15, true), (16, true)] (by kernel_rfl) (fun _ d _ _ _ h => by cases d <;> exact h) ?_
        simp only [List.map_cons, List.map_nil, nthOp_zero, nthOp_succ]
        generalize (wr.alloc (.cells #[.int .u32 pa, .int .u8 pn] 31)).drew = w0 at *
        refine wpS_take HS0 (by kernel_rfl) (by intro W hW; obtain ⟨hA, hB⟩ := hW; have q0 := hB.cell 0; have q1 := hB.cell 1; obtain ⟨r0, r1⟩ := hA.cells_at hk.out; clear hA hB; simp only [List.getElem?_toArray, List.getElem?_cons_zero, List.getElem?_cons_succ] at q0 q1; go_simp; try with_reducible rfl) ?_
        refine wpS_take HS0 (by kernel_rfl) (by intro W hW; obtain ⟨hA, hB⟩ := hW; have q0 := hB.cell 0; have q1 := hB.cell 1; obtain ⟨r0, r1⟩ := hA.cells_at hk.out; clear hA hB; simp only [List.getElem?_toArray, List.getElem?_cons_zero, List.getElem?_cons_succ] at q0 q1; go_simp; try with_reducible rfl) ?_
        try go_simp
        refine wpS_do fun K1 hK1 => ?_
        go_wp2_with fail
        refine (HH.out _).mono ?_
        rintro e w1 ⟨rfl, hb1⟩
        have HS1 : Hid (S5 ad n L wr.heap.size ⟨pa, pn⟩ w1) := HS0.out.later hb1
        have HB1 := Lib.hid (below_then HB0.out hb1)
        clear hb1 HS0 HB0
        go_wp2_with fail
        refine hK1.out _ _ HS1.out ?_
        clear hK1 K1
        refine wpS_take HS1 (by kernel_rfl) (by intro W hW; obtain ⟨hA, hB⟩ := hW; have q0 := hB.cell 0; have q1 := hB.cell 1; obtain ⟨r0, r1⟩ := hA.cells_at hk.out; clear hA hB; simp only [List.getElem?_toArray, List.getElem?_cons_zero, List.getElem?_cons_succ] at q0 q1; go_simp; try with_reducible rfl) ?_
        refine wpS_skip HS1 (by kernel_rfl) ?_
        refine wpS_skip HS1 (by kernel_rfl) ?_
        refine wpS_skip HS1 (by kernel_rfl) ?_
        refine wpS_skip HS1 (by kernel_rfl) ?_
        refine wpS_skip HS1 (by kernel_rfl) ?_
        refine wpS_skip HS1 (by kernel_rfl) ?_
        refine wpS_skip HS1 (by kernel_rfl) ?_
        refine wpS_skip HS1 (by kernel_rfl) ?_
        refine wpS_skip HS1 (by kernel_rfl) ?_
        refine wpS_skip HS1 (by kernel_rfl) ?_
        refine wpS_skip HS1 (by kernel_rfl) ?_
        refine wpS_skip HS1 (by kernel_rfl) ?_
        refine wpS_take HS1 (by kernel_rfl) (by intro W hW; obtain ⟨hA, hB⟩ := hW; have q0 := hB.cell 0; have q1 := hB.cell 1; obtain ⟨r0, r1⟩ := hA.cells_at hk.out; clear hA hB; simp only [List.getElem?_toArray, List.getElem?_cons_zero, List.getElem?_cons_succ] at q0 q1; go_simp; try with_reducible rfl) ?_
        refine wpS_nil ?_
        try go_simp
        go_wp2
        go_roundw
        case rel => exact ⟨k + 1, by simp, by omega, by rw [hv.out, ← hbi], HB1.out⟩
        case measure => simp [intOf]; omega
      · cases hbo : bestTo L b k with
        | none =>
          have hv := Lib.hid (hfi rfl hbo)
          clear hno hfi hne hbo
          rw [show bestV none = -1 from rfl]
          go_wp2
          have HS0 : Hid (S5 ad n L wr.heap.size ⟨pa, pn⟩ (wr.alloc (.cells #[.int .u32 pa, .int .u8 pn] 31)).drew) := ⟨HLr.out.later (((Below.refl _ _).alloc (Nat.le_refl _) _).drew), Blk.new _ _ _⟩
          have HB0 : Hid (Below w.heap.size w (wr.alloc (.cells #[.int .u32 pa, .int .u8 pn] 31)).drew) := ((hbw.alloc hbw.size _).drew)
          refine wp_region_s (S5 ad n L wr.heap.size ⟨pa, pn⟩) [(1, true), (0, true), (2, false), (3, true), (4, true), (5, true), (6, true), (7, true), (9, true), (10, true), (11, true), (12, true), (8, true), (13, true), (14, true), (15, true), (16, true)] (by kernel_rfl) (fun _ d _ _ _ h => by cases d <;> exact h) ?_
          simp only [List.map_cons, List.map_nil, nthOp_zero, nthOp_succ]
          generalize (wr.alloc (.cells #[.int .u32 pa, .int .u8 pn] 31)).drew = w0 at *
          refine wpS_take HS0 (by kernel_rfl) (by intro W hW; obtain ⟨hA, hB⟩ := hW; have q0 := hB.cell 0; have q1 := hB.cell 1; obtain ⟨r0, r1⟩ := hA.cells_at hk.out; clear hA hB; simp only [List.getElem?_toArray, List.getElem?_cons_zero, List.getElem?_cons_succ] at q0 q1; go_simp; try with_reducible rfl) ?_
          refine wpS_take HS0 (by kernel_rfl) (by intro W hW; obtain ⟨hA, hB⟩ := hW; have q0 := hB.cell 0; have q1 := hB.cell 1; obtain ⟨r0, r1⟩ := hA.cells_at hk.out; clear hA hB; simp only [List.getElem?_toArray, List.getElem?_cons_zero, List.getElem?_cons_succ] at q0 q1; go_simp; try with_reducible rfl) ?_
          try go_simp
          refine wpS_do fun K1 hK1 => ?_
          go_wp2_with fail
          refine (HH.out _).mono ?_
          rintro e w1 ⟨rfl, hb1⟩
          have HS1 : Hid (S5 ad n L wr.heap.size ⟨pa, pn⟩ w1) := HS0.out.later hb1
          have HB1 := Lib.hid (below_then HB0.out hb1)
          clear hb1 HS0 HB0
          go_wp2_with fail
          refine hK1.out _ _ HS1.out ?_
          clear hK1 K1
          refine wpS_take HS1 (by kernel_rfl) (by intro W hW; obtain ⟨hA, hB⟩ := hW; have q0 := hB.cell 0; have q1 := hB.cell 1; obtain ⟨r0, r1⟩ := hA.cells_at hk.out; clear hA hB; simp only [List.getElem?_toArray, List.getElem?_cons_zero, List.getElem?_cons_succ] at q0 q1; go_simp; try with_reducible rfl) ?_
          refine wpS_take HS1 (by kernel_rfl) (by intro W hW; obtain ⟨hA, hB⟩ := hW; have q0 := hB.cell 0; have q1 := hB.cell 1; obtain ⟨r0, r1⟩ := hA.cells_at hk.out; clear hA hB; simp only [List.getElem?_toArray, List.getElem?_cons_zero, List.getElem?_cons_succ] at q0 q1; go_simp; try with_reducible rfl) ?_
          refine wpS_take HS1 (by kernel_rfl) (by intro W hW; obtain ⟨hA, hB⟩ := hW; have q0 := hB.cell 0; have q1 := hB.cell 1; obtain ⟨r0, r1⟩ := hA.cells_at hk.out; clear hA hB; simp only [List.getElem?_toArray, List.getElem?_cons_zero, List.getElem?_cons_succ] at q0 q1; go_simp; try with_reducible rfl) ?_
          refine wpS_take HS1 (by kernel_rfl) (by intro W hW; obtain ⟨hA, hB⟩ := hW; have q0 := hB.cell 0; have q1 := hB.cell 1; obtain ⟨r0, r1⟩ := hA.cells_at hk.out; clear hA hB; simp only [List.getElem?_toArray, List.getElem?_cons_zero, List.getElem?_cons_succ] at q0 q1; go_simp; try with_reducible rfl) ?_
          refine wpS_skip HS1 (by kernel_rfl) ?_
          refine wpS_skip HS1 (by kernel_rfl) ?_
          refine wpS_skip HS1 (by kernel_rfl) ?_
          refine wpS_skip HS1 (by kernel_rfl) ?_
          refine wpS_skip HS1 (by kernel_rfl) ?_
          refine wpS_skip HS1 (by kernel_rfl) ?_
          refine wpS_skip HS1 (by kernel_rfl) ?_
          refine wpS_skip HS1 (by kernel_rfl) ?_
          refine wpS_take HS1 (by kernel_rfl) (by intro W hW; obtain ⟨hA, hB⟩ := hW; have q0 := hB.cell 0; have q1 := hB.cell 1; obtain ⟨r0, r1⟩ := hA.cells_at hk.out; clear hA hB; simp only [List.getElem?_toArray, List.getElem?_cons_zero, List.getElem?_cons_succ] at q0 q1; go_simp; try with_reducible rfl) ?_
          refine wpS_take HS1 (by kernel_rfl) (by intro W hW; obtain ⟨hA, hB⟩ := hW; have q0 := hB.cell 0; have q1 := hB.cell 1; obtain ⟨r0, r1⟩ := hA.cells_at hk.out; clear hA hB; simp only [List.getElem?_toArray, List.getElem?_cons_zero, List.getElem?_cons_succ] at q0 q1; go_simp; try with_reducible rfl) ?_
          refine wpS_nil ?_
          try go_simp
          go_wp2
          go_roundw
          case rel => exact ⟨k + 1, by simp, by omega, by rw [hv.out]; rfl, HB1.out⟩
          case measure => simp [intOf]; omega
        | some m =>
          obtain ⟨hm, o, ho1⟩ := bestTo_ok L b k m hbo
          have hv := Lib.hid (hne m o rfl hbo ho1)
          have ho := Lib.hid ho1
          obtain ⟨oa, on⟩ := o
          simp only at hv
          have hmn : (m : Int) < n := by omega
          have hm0 : decide ((m : Int) < 0) = false := decide_eq_false (by omega)
          clear hno hfi hne hbo ho1
          rw [show bestV (some m) = (m : Int) from rfl]
          by_cases hlen : on < pn
          · have hleni : (on : Int) < pn := by omega
            rw [if_pos hlen] at hv
            go_wp2
            have HS0 : Hid (S5 ad n L wr.heap.size ⟨pa, pn⟩ (wr.alloc (.cells #[.int .u32 pa, .int .u8 pn] 31)).drew) := ⟨HLr.out.later (((Below.refl _ _).alloc (Nat.le_refl _) _).drew), Blk.new _ _ _⟩
            have HB0 : Hid (Below w.heap.size w (wr.alloc (.cells #[.int .u32 pa, .int .u8 pn] 31)).drew) := ((hbw.alloc hbw.size _).drew)
            refine wp_region_s (S5 ad n L wr.heap.size ⟨pa, pn⟩) [(1, true), (0, true), (2, false), (3, true), (4, true), (5, true), (6, true), (7, true), (9, true), (10, true), (11, true), (12, true), (8, true), (13, true), (14, true), (15, true), (16, true)] (by kernel_rfl) (fun _ d _ _ _ h => by cases d <;> exact h) ?_
            simp only [List.map_cons, List.map_nil, nthOp_zero, nthOp_succ]
            generalize (wr.alloc (.cells #[.int .u32 pa, .int .u8 pn] 31)).drew = w0 at *
            refine wpS_take HS0 (by kernel_rfl) (by intro W hW; obtain ⟨hA, hB⟩ := hW; have q0 := hB.cell 0; have q1 := hB.cell 1; obtain ⟨r0, r1⟩ := hA.cells_at hk.out; obtain ⟨o0, o1⟩ := hA.cells_at ho.out; clear hA hB; simp only [List.getElem?_toArray, List.getElem?_cons_zero, List.getElem?_cons_succ] at q0 q1; go_simp; try with_reducible rfl) ?_
            refine wpS_take HS0 (by kernel_rfl) (by intro W hW; obtain ⟨hA, hB⟩ := hW; have q0 := hB.cell 0; have q1 := hB.cell 1; obtain ⟨r0, r1⟩ := hA.cells_at hk.out; obtain ⟨o0, o1⟩ := hA.cells_at ho.out; clear hA hB; simp only [List.getElem?_toArray, List.getElem?_cons_zero, List.getElem?_cons_succ] at q0 q1; go_simp; try with_reducible rfl) ?_
            try go_simp
            refine wpS_do fun K1 hK1 => ?_
            go_wp2_with fail
            refine (HH.out _).mono ?_
            rintro e w1 ⟨rfl, hb1⟩
            have HS1 : Hid (S5 ad n L wr.heap.size ⟨pa, pn⟩ w1) := HS0.out.later hb1
            have HB1 := Lib.hid (below_then HB0.out hb1)
            clear hb1 HS0 HB0
            go_wp2_with fail
            refine hK1.out _ _ HS1.out ?_
            clear hK1 K1
            refine wpS_take HS1 (by kernel_rfl) (by intro W hW; obtain ⟨hA, hB⟩ := hW; have q0 := hB.cell 0; have q1 := hB.cell 1; obtain ⟨r0, r1⟩ := hA.cells_at hk.out; obtain ⟨o0, o1⟩ := hA.cells_at ho.out; clear hA hB; simp only [List.getElem?_toArray, List.getElem?_cons_zero, List.getElem?_cons_succ] at q0 q1; go_simp; try with_reducible rfl) ?_
            refine wpS_take HS1 (by kernel_rfl) (by intro W hW; obtain ⟨hA, hB⟩ := hW; have q0 := hB.cell 0; have q1 := hB.cell 1; obtain ⟨r0, r1⟩ := hA.cells_at hk.out; obtain ⟨o0, o1⟩ := hA.cells_at ho.out; clear hA hB; simp only [List.getElem?_toArray, List.getElem?_cons_zero, List.getElem?_cons_succ] at q0 q1; go_simp; try with_reducible rfl) ?_
            refine wpS_take HS1 (by kernel_rfl) (by intro W hW; obtain ⟨hA, hB⟩ := hW; have q0 := hB.cell 0; have q1 := hB.cell 1; obtain ⟨r0, r1⟩ := hA.cells_at hk.out; obtain ⟨o0, o1⟩ := hA.cells_at ho.out; clear hA hB; simp only [List.getElem?_toArray, List.getElem?_cons_zero, List.getElem?_cons_succ] at q0 q1; go_simp; try with_reducible rfl) ?_
            refine wpS_take HS1 (by kernel_rfl) (by intro W hW; obtain ⟨hA, hB⟩ := hW; have q0 := hB.cell 0; have q1 := hB.cell 1; obtain ⟨r0, r1⟩ := hA.cells_at hk.out; obtain ⟨o0, o1⟩ := hA.cells_at ho.out; clear hA hB; simp only [List.getElem?_toArray, List.getElem?_cons_zero, List.getElem?_cons_succ] at q0 q1; go_simp; try with_reducible rfl) ?_
            refine wpS_take HS1 (by kernel_rfl) (by intro W hW; obtain ⟨hA, hB⟩ := hW; have q0 := hB.cell 0; have q1 := hB.cell 1; obtain ⟨r0, r1⟩ := hA.cells_at hk.out; obtain ⟨o0, o1⟩ := hA.cells_at ho.out; clear hA hB; simp only [List.getElem?_toArray, List.getElem?_cons_zero, List.getElem?_cons_succ] at q0 q1; go_simp; try with_reducible rfl) ?_
            refine wpS_take HS1 (by kernel_rfl) (by intro W hW; obtain ⟨hA, hB⟩ := hW; have q0 := hB.cell 0; have q1 := hB.cell 1; obtain ⟨r0, r1⟩ := hA.cells_at hk.out; obtain ⟨o0, o1⟩ := hA.cells_at ho.out; clear hA hB; simp only [List.getElem?_toArray, List.getElem?_cons_zero, List.getElem?_cons_succ] at q0 q1; go_simp; try with_reducible rfl) ?_
            refine wpS_take HS1 (by kernel_rfl) (by intro W hW; obtain ⟨hA, hB⟩ := hW; have q0 := hB.cell 0; have q1 := hB.cell 1; obtain ⟨r0, r1⟩ := hA.cells_at hk.out; obtain ⟨o0, o1⟩ := hA.cells_at ho.out; clear hA hB; simp only [List.getElem?_toArray, List.getElem?_cons_zero, List.getElem?_cons_succ] at q0 q1; go_simp; try with_reducible rfl) ?_
            refine wpS_take HS1 (by kernel_rfl) (by intro W hW; obtain ⟨hA, hB⟩ := hW; have q0 := hB.cell 0; have q1 := hB.cell 1; obtain ⟨r0, r1⟩ := hA.cells_at hk.out; obtain ⟨o0, o1⟩ := hA.cells_at ho.out; clear hA hB; simp only [List.getElem?_toArray, List.getElem?_cons_zero, List.getElem?_cons_succ] at q0 q1; go_simp; try with_reducible rfl) ?_
            refine wpS_take HS1 (by kernel_rfl) (by intro W hW; obtain ⟨hA, hB⟩ := hW; have q0 := hB.cell 0; have q1 := hB.cell 1; obtain ⟨r0, r1⟩ := hA.cells_at hk.out; obtain ⟨o0, o1⟩ := hA.cells_at ho.out; clear hA hB; simp only [List.getElem?_toArray, List.getElem?_cons_zero, List.getElem?_cons_succ] at q0 q1; go_simp; try with_reducible rfl) ?_
            refine wpS_take HS1 (by kernel_rfl) (by intro W hW; obtain ⟨hA, hB⟩ := hW; have q0 := hB.cell 0; have q1 := hB.cell 1; obtain ⟨r0, r1⟩ := hA.cells_at hk.out; obtain ⟨o0, o1⟩ := hA.cells_at ho.out; clear hA hB; simp only [List.getElem?_toArray, List.getElem?_cons_zero, List.getElem?_cons_succ] at q0 q1; go_simp; try with_reducible rfl) ?_
            refine wpS_take HS1 (by kernel_rfl) (by intro W hW; obtain ⟨hA, hB⟩ := hW; have q0 := hB.cell 0; have q1 := hB.cell 1; obtain ⟨r0, r1⟩ := hA.cells_at hk.out; obtain ⟨o0, o1⟩ := hA.cells_at ho.out; clear hA hB; simp only [List.getElem?_toArray, List.getElem?_cons_zero, List.getElem?_cons_succ] at q0 q1; go_simp; try with_reducible rfl) ?_
            refine wpS_take HS1 (by kernel_rfl) (by intro W hW; obtain ⟨hA, hB⟩ := hW; have q0 := hB.cell 0; have q1 := hB.cell 1; obtain ⟨r0, r1⟩ := hA.cells_at hk.out; obtain ⟨o0, o1⟩ := hA.cells_at ho.out; clear hA hB; simp only [List.getElem?_toArray, List.getElem?_cons_zero, List.getElem?_cons_succ] at q0 q1; go_simp; try with_reducible rfl) ?_
            refine wpS_take HS1 (by kernel_rfl) (by intro W hW; obtain ⟨hA, hB⟩ := hW; have q0 := hB.cell 0; have q1 := hB.cell 1; obtain ⟨r0, r1⟩ := hA.cells_at hk.out; obtain ⟨o0, o1⟩ := hA.cells_at ho.out; clear hA hB; simp only [List.getElem?_toArray, List.getElem?_cons_zero, List.getElem?_cons_succ] at q0 q1; go_simp; try with_reducible rfl) ?_
            refine wpS_take HS1 (by kernel_rfl) (by intro W hW; obtain ⟨hA, hB⟩ := hW; have q0 := hB.cell 0; have q1 := hB.cell 1; obtain ⟨r0, r1⟩ := hA.cells_at hk.out; obtain ⟨o0, o1⟩ := hA.cells_at ho.out; clear hA hB; simp only [List.getElem?_toArray, List.getElem?_cons_zero, List.getElem?_cons_succ] at q0 q1; go_simp; try with_reducible rfl) ?_
            refine wpS_nil ?_
            try go_simp
            go_wp2
            go_roundw
            case rel => exact ⟨k + 1, by simp, by omega, by rw [hv.out]; rfl, HB1.out⟩
            case measure => simp [intOf]; omega
          · have hleni : decide (on < pn) = false := decide_eq_false hlen
            rw [if_neg hlen] at hv
            go_wp2
            have HS0 : Hid (S5 ad n L wr.heap.size ⟨pa, pn⟩ (wr.alloc (.cells #[.int .u32 pa, .int .u8 pn] 31)).drew) := ⟨HLr.out.later (((Below.refl _ _).alloc (Nat.le_refl _) _).drew), Blk.new _ _ _⟩
            have HB0 : Hid (Below w.heap.size w (wr.alloc (.cells #[.int .u32 pa, .int .u8 pn] 31)).drew) := ((hbw.alloc hbw.size _).drew)
            refine wp_region_s (S5 ad n L wr.heap.size ⟨pa, pn⟩) [(1, true), (0, true), (2, false), (3, true), (4, true), (5, true), (6, true), (7, true), (9, true), (10, true), (11, true), (12, true), (8, true), (13, true), (14, true), (15, true), (16, true)] (by kernel_rfl) (fun _ d _ _ _ h => by cases d <;> exact h) ?_
            simp only [List.map_cons, List.map_nil, nthOp_zero, nthOp_succ]
            generalize (wr.alloc (.cells #[.int .u32 pa, .int .u8 pn] 31)).drew = w0 at *
            refine wpS_take HS0 (by kernel_rfl) (by intro W hW; obtain ⟨hA, hB⟩ := hW; have q0 := hB.cell 0; have q1 := hB.cell 1; obtain ⟨r0, r1⟩ := hA.cells_at hk.out; obtain ⟨o0, o1⟩ := hA.cells_at ho.out; clear hA hB; simp only [List.getElem?_toArray, List.getElem?_cons_zero, List.getElem?_cons_succ] at q0 q1; go_simp; try with_reducible rfl) ?_
            refine wpS_take HS0 (by kernel_rfl) (by intro W hW; obtain ⟨hA, hB⟩ := hW; have q0 := hB.cell 0; have q1 := hB.cell 1; obtain ⟨r0, r1⟩ := hA.cells_at hk.out; obtain ⟨o0, o1⟩ := hA.cells_at ho.out; clear hA hB; simp only [List.getElem?_toArray, List.getElem?_cons_zero, List.getElem?_cons_succ] at q0 q1; go_simp; try with_reducible rfl) ?_
            try go_simp
            refine wpS_do fun K1 hK1 => ?_
            go_wp2_with fail
            refine (HH.out _).mono ?_
            rintro e w1 ⟨rfl, hb1⟩
            have HS1 : Hid (S5 ad n L wr.heap.size ⟨pa, pn⟩ w1) := HS0.out.later hb1
            have HB1 := Lib.hid (below_then HB0.out hb1)
            clear hb1 HS0 HB0
            go_wp2_with fail
            refine hK1.out _ _ HS1.out ?_
            clear hK1 K1
            refine wpS_take HS1 (by kernel_rfl) (by intro W hW; obtain ⟨hA, hB⟩ := hW; have q0 := hB.cell 0; have q1 := hB.cell 1; obtain ⟨r0, r1⟩ := hA.cells_at hk.out; obtain ⟨o0, o1⟩ := hA.cells_at ho.out; clear hA hB; simp only [List.getElem?_toArray, List.getElem?_cons_zero, List.getElem?_cons_succ] at q0 q1; go_simp; try with_reducible rfl) ?_
            refine wpS_take HS1 (by kernel_rfl) (by intro W hW; obtain ⟨hA, hB⟩ := hW; have q0 := hB.cell 0; have q1 := hB.cell 1; obtain ⟨r0, r1⟩ := hA.cells_at hk.out; obtain ⟨o0, o1⟩ := hA.cells_at ho.out; clear hA hB; simp only [List.getElem?_toArray, List.getElem?_cons_zero, List.getElem?_cons_succ] at q0 q1; go_simp; try with_reducible rfl) ?_
            refine wpS_take HS1 (by kernel_rfl) (by intro W hW; obtain ⟨hA, hB⟩ := hW; have q0 := hB.cell 0; have q1 := hB.cell 1; obtain ⟨r0, r1⟩ := hA.cells_at hk.out; obtain ⟨o0, o1⟩ := hA.cells_at ho.out; clear hA hB; simp only [List.getElem?_toArray, List.getElem?_cons_zero, List.getElem?_cons_succ] at q0 q1; go_simp; try with_reducible rfl) ?_
            refine wpS_take HS1 (by kernel_rfl) (by intro W hW; obtain ⟨hA, hB⟩ := hW; have q0 := hB.cell 0; have q1 := hB.cell 1; obtain ⟨r0, r1⟩ := hA.cells_at hk.out; obtain ⟨o0, o1⟩ := hA.cells_at ho.out; clear hA hB; simp only [List.getElem?_toArray, List.getElem?_cons_zero, List.getElem?_cons_succ] at q0 q1; go_simp; try with_reducible rfl) ?_
            refine wpS_take HS1 (by kernel_rfl) (by intro W hW; obtain ⟨hA, hB⟩ := hW; have q0 := hB.cell 0; have q1 := hB.cell 1; obtain ⟨r0, r1⟩ := hA.cells_at hk.out; obtain ⟨o0, o1⟩ := hA.cells_at ho.out; clear hA hB; simp only [List.getElem?_toArray, List.getElem?_cons_zero, List.getElem?_cons_succ] at q0 q1; go_simp; try with_reducible rfl) ?_
            refine wpS_take HS1 (by kernel_rfl) (by intro W hW; obtain ⟨hA, hB⟩ := hW; have q0 := hB.cell 0; have q1 := hB.cell 1; obtain ⟨r0, r1⟩ := hA.cells_at hk.out; obtain ⟨o0, o1⟩ := hA.cells_at ho.out; clear hA hB; simp only [List.getElem?_toArray, List.getElem?_cons_zero, List.getElem?_cons_succ] at q0 q1; go_simp; try with_reducible rfl) ?_
            refine wpS_take HS1 (by kernel_rfl) (by intro W hW; obtain ⟨hA, hB⟩ := hW; have q0 := hB.cell 0; have q1 := hB.cell 1; obtain ⟨r0, r1⟩ := hA.cells_at hk.out; obtain ⟨o0, o1⟩ := hA.cells_at ho.out; clear hA hB; simp only [List.getElem?_toArray, List.getElem?_cons_zero, List.getElem?_cons_succ] at q0 q1; go_simp; try with_reducible rfl) ?_
            refine wpS_take HS1 (by kernel_rfl) (by intro W hW; obtain ⟨hA, hB⟩ := hW; have q0 := hB.cell 0; have q1 := hB.cell 1; obtain ⟨r0, r1⟩ := hA.cells_at hk.out; obtain ⟨o0, o1⟩ := hA.cells_at ho.out; clear hA hB; simp only [List.getElem?_toArray, List.getElem?_cons_zero, List.getElem?_cons_succ] at q0 q1; go_simp; try with_reducible rfl) ?_
            refine wpS_take HS1 (by kernel_rfl) (by intro W hW; obtain ⟨hA, hB⟩ := hW; have q0 := hB.cell 0; have q1 := hB.cell 1; obtain ⟨r0, r1⟩ := hA.cells_at hk.out; obtain ⟨o0, o1⟩ := hA.cells_at ho.out; clear hA hB; simp only [List.getElem?_toArray, List.getElem?_cons_zero, List.getElem?_cons_succ] at q0 q1; go_simp; try with_reducible rfl) ?_
            refine wpS_take HS1 (by kernel_rfl) (by intro W hW; obtain ⟨hA, hB⟩ := hW; have q0 := hB.cell 0; have q1 := hB.cell 1; obtain ⟨r0, r1⟩ := hA.cells_at hk.out; obtain ⟨o0, o1⟩ := hA.cells_at ho.out; clear hA hB; simp only [List.getElem?_toArray, List.getElem?_cons_zero, List.getElem?_cons_succ] at q0 q1; go_simp; try with_reducible rfl) ?_
            refine wpS_take HS1 (by kernel_rfl) (by intro W hW; obtain ⟨hA, hB⟩ := hW; have q0 := hB.cell 0; have q1 := hB.cell 1; obtain ⟨r0, r1⟩ := hA.cells_at hk.out; obtain ⟨o0, o1⟩ := hA.cells_at ho.out; clear hA hB; simp only [List.getElem?_toArray, List.getElem?_cons_zero, List.getElem?_cons_succ] at q0 q1; go_simp; try with_reducible rfl) ?_
            refine wpS_take HS1 (by kernel_rfl) (by intro W hW; obtain ⟨hA, hB⟩ := hW; have q0 := hB.cell 0; have q1 := hB.cell 1; obtain ⟨r0, r1⟩ := hA.cells_at hk.out; obtain ⟨o0, o1⟩ := hA.cells_at ho.out; clear hA hB; simp only [List.getElem?_toArray, List.getElem?_cons_zero, List.getElem?_cons_succ] at q0 q1; go_simp; try with_reducible rfl) ?_
            refine wpS_take HS1 (by kernel_rfl) (by intro W hW; obtain ⟨hA, hB⟩ := hW; have q0 := hB.cell 0; have q1 := hB.cell 1; obtain ⟨r0, r1⟩ := hA.cells_at hk.out; obtain ⟨o0, o1⟩ := hA.cells_at ho.out; clear hA hB; simp only [List.getElem?_toArray, List.getElem?_cons_zero, List.getElem?_cons_succ] at q0 q1; go_simp; try with_reducible rfl) ?_
            refine wpS_take HS1 (by kernel_rfl) (by intro W hW; obtain ⟨hA, hB⟩ := hW; have q0 := hB.cell 0; have q1 := hB.cell 1; obtain ⟨r0, r1⟩ := hA.cells_at hk.out; obtain ⟨o0, o1⟩ := hA.cells_at ho.out; clear hA hB; simp only [List.getElem?_toArray, List.getElem?_cons_zero, List.getElem?_cons_succ] at q0 q1; go_simp; try with_reducible rfl) ?_
            refine wpS_nil ?_
            try go_simp
            go_wp2
            go_roundw
            case rel => exact ⟨k + 1, by simp, by omega, by rw [hv.out]; rfl, HB1.out⟩
            case measure => simp [intOf]; omega
    · obtain rfl : k = n := by omega
      go_wp2
      go_ret
      exact ⟨rfl, hbw⟩

set_option maxRecDepth 100000 in
set_option maxHeartbeats 4000000 in
theorem refBest_any (A : Option Addr) (n c : Nat) (L : List Pf) (b : Nat) (w : World) (hL : Pfs w A n L) (hb : b < 4294967296) (hn : n ≤ 1000000) :
    Calls Tryd.prog 10 #[.slice A n c, .int .u32 b] w fun e w' => e = .returned (.int .i64 (bestV (bestTo L b n))) ∧ Below w.heap.size w w' := by
  have HL := Lib.hid hL
  clear hL
  go_enter Tryd.func10, Tryd.ntmps10
  go_wp2
  go_loopw [5, 6] (BsRel w L b n) (fun _ i _ => n - (intOf i).toNat)
  case atStart => exact ⟨0, rfl, by omega, rfl, Below.refl _ _⟩
  case round =>
    obtain ⟨k, rfl, hk, rfl, hbw⟩ := hrel
    by_cases hlt : k < n
    · have hlti : (k : Int) < n := by omega
      have HLr := Lib.hid (HL.out.later hbw)
      obtain ⟨ad, rfl, hadb⟩ := HLr.out.some_ (by omega)
      have hkl : k < L.length := by have := HL.out.len; omega
      obtain ⟨p, hp⟩ : ∃ p, L[k]? = some p := ⟨L[k], List.getElem?_eq_getElem hkl⟩
      have hpo := HL.out.ok p (List.mem_of_getElem? hp)
      have hk := Lib.hid hp
      have hwr : (k : Int) + 1 ≤ 9223372036854775807 := by omega
      obtain ⟨r0, r1⟩ := HLr.out.cells_at hp
      have hno := best_no (b := b) hp
      have hfi := best_first (b := b) hp
      have hne := fun m o => best_next (b := b) (m := m) (o := o) hp
      have HH : Hid (∀ W : World, Calls Tryd.prog 33 #[.agg #[.int .u32 p.a, .int .u8 p.n], .int .u32 b] W fun e w' => e = .returned (.bool (hasP p.a p.n b)) ∧ Below W.heap.size W w') := fun W => refHas_any p b W hpo hb
      clear hp hpo
      obtain ⟨pa, pn⟩ := p
      simp only at r0 r1 hno hfi hne HH
      generalize hasP pa pn b = h at *
      cases h
      · have hv := Lib.hid (hno rfl)
        clear hno hfi hne
        generalize bestTo L b k = bo at *
        obtain ⟨bi, hbi⟩ : ∃ z, z = bestV bo := ⟨_, rfl⟩
        rw [← hbi]
        go_wp2
        have HS0 : Hid (Pfs wr.drew (some ad) n L) := HLr.out.later ((Below.refl _ _).drew)
        have HB0 : Hid (Below w.heap.size w wr.drew) := hbw.drew
        refine wp_region_s (fun W => Pfs W (some ad) n L) [(0, true), (1, true), (2, true), (4, true), (3, true), (5, false), (6, true), (7, true), (8, true), (9, true), (10, true), (11, true), (12, true), (13, true), (15, true), (16, true), (17, true), (18, true), (14, true), (19, true), (20, true), (21, true), (22, true)] (by kernel_rfl) (fun _ d _ _ _ h => by cases d <;> exact h) ?_
        simp only [List.map_cons, List.map_nil, nthOp_zero, nthOp_succ]
        generalize wr.drew = w0 at *
        refine wpS_take HS0 (by kernel_rfl) (by intro W hW; obtain ⟨r0, r1⟩ := hW.cells_at hk.out; clear hW; go_simp; try with_reducible rfl) ?_
        refine wpS_take HS0 (by kernel_rfl) (by intro W hW; obtain ⟨r0, r1⟩ := hW.cells_at hk.out; clear hW; go_simp; try with_reducible rfl) ?_
        refine wpS_take HS0 (by kernel_rfl) (by intro W hW; obtain ⟨r0, r1⟩ := hW.cells_at hk.out; clear hW; go_simp; try with_reducible rfl) ?_
        refine wpS_take HS0 (by kernel_rfl) (by intro W hW; obtain ⟨r0, r1⟩ := hW.cells_at hk.out; clear hW; go_simp; try with_reducible rfl) ?_
        refine wpS_take HS0 (by kernel_rfl) (by intro W hW; obtain ⟨r0, r1⟩ := hW.cells_at hk.out; clear hW; go_simp; try with_reducible rfl) ?_
        try go_simp
        refine wpS_do fun K1 hK1 => ?_
        go_wp2_with fail
        refine (HH.out _).mono ?_
        rintro e w1 ⟨rfl, hb1⟩
        have HS1 : Hid (Pfs w1 (some ad) n L) := HS0.out.later hb1
        have HB1 := Lib.hid (below_then HB0.out hb1)
        clear hb1 HS0 HB0
        go_wp2_with fail
        refine hK1.out _ _ HS1.out ?_
        clear hK1 K1
        refine wpS_take HS1 (by kernel_rfl) (by intro W hW; obtain ⟨r0, r1⟩ := hW.cells_at hk.out; clear hW; go_simp; try with_reducible rfl) ?_
        refine wpS_skip HS1 (by kernel_rfl) ?_
        refine wpS_skip HS1 (by kernel_rfl) ?_
        refine wpS_skip HS1 (by kernel_rfl) ?_
        refine wpS_skip HS1 (by kernel_rfl) ?_
        refine wpS_skip HS1 (by kernel_rfl) ?_
        refine wpS_skip HS1 (by kernel_rfl) ?_
        refine wpS_skip HS1 (by kernel_rfl) ?_
        refine wpS_skip HS1 (by kernel_rfl) ?_
        refine wpS_skip HS1 (by kernel_rfl) ?_
        refine wpS_skip HS1 (by kernel_rfl) ?_
        refine wpS_skip HS1 (by kernel_rfl) ?_
        refine wpS_skip HS1 (by kernel_rfl) ?_
        refine wpS_skip HS1 (by kernel_rfl) ?_
        refine wpS_skip HS1 (by kernel_rfl) ?_
        refine wpS_skip HS1 (by kernel_rfl) ?_
        refine wpS_take HS1 (by kernel_rfl) (by intro W hW; obtain ⟨r0, r1⟩ := hW.cells_at hk.out; clear hW; go_simp; try with_reducible rfl) ?_
        refine wpS_nil ?_
        try go_simp
        go_wp2
        go_roundw
        case rel => exact ⟨k + 1, by simp, by omega, by rw [hv.out, ← hbi], HB1.out⟩
        case measure => simp [intOf]; omega
      · cases hbo : bestTo L b k with
        | none =>
          have hv := Lib.hid (hfi rfl hbo)
          clear hno hfi hne hbo
          rw [show bestV none = -1 from rfl]
          go_wp2
          have HS0 : Hid (Pfs wr.drew (some ad) n L) := HLr.out.later ((Below.refl _ _).drew)
          have HB0 : Hid (Below w.heap.size w wr.drew) := hbw.drew
          refine wp_region_s (fun W => Pfs W (some ad) n L) [(0, true), (1, true), (2, true), (4, true), (3, true), (5, false), (6, true), (7, true), (8, true), (9, true), (10, true), (11, true), (12, true), (13, true), (15, true), (16, true), (17, true), (18, true), (14, true), (19, true), (20, true), (21, true), (22, true)] (by kernel_rfl) (fun _ d _ _ _ h => by cases d <;> exact h) ?_
          simp only [List.map_cons, List.map_nil, nthOp_zero, nthOp_succ]
          generalize wr.drew = w0 at *
          refine wpS_take HS0 (by kernel_rfl) (by intro W hW; obtain ⟨r0, r1⟩ := hW.cells_at hk.out; clear hW; go_simp; try with_reducible rfl) ?_
          refine wpS_take HS0 (by kernel_rfl) (by intro W hW; obtain ⟨r0, r1⟩ := hW.cells_at hk.out; clear hW; go_simp; try with_reducible rfl) ?_
          refine wpS_take HS0 (by kernel_rfl) (by intro W hW; obtain ⟨r0, r1⟩ := hW.cells_at hk.out; clear hW; go_simp; try with_reducible rfl) ?_
          refine wpS_take HS0 (by kernel_rfl) (by intro W hW; obtain ⟨r0, r1⟩ := hW.cells_at hk.out; clear hW; go_simp; try with_reducible rfl) ?_
          refine wpS_take HS0 (by kernel_rfl) (by intro W hW; obtain ⟨r0, r1⟩ := hW.cells_at hk.out; clear hW; go_simp; try with_reducible rfl) ?_
          try go_simp
          refine wpS_do fun K1 hK1 => ?_
          go_wp2_with fail
          refine (HH.out _).mono ?_
          rintro e w1 ⟨rfl, hb1⟩
          have HS1 : Hid (Pfs w1 (some ad) n L) := HS0.out.later hb1
          have HB1 := Lib.hid (below_then HB0.out hb1)
          clear hb1 HS0 HB0
          go_wp2_with fail
          refine hK1.out _ _ HS1.out ?_
          clear hK1 K1
          refine wpS_take HS1 (by kernel_rfl) (by intro W hW; obtain ⟨r0, r1⟩ := hW.cells_at hk.out; clear hW; go_simp; try with_reducible rfl) ?_
          refine wpS_take HS1 (by kernel_rfl) (by intro W hW; obtain ⟨r0, r1⟩ := hW.cells_at hk.out; clear hW; go_simp; try with_reducible rfl) ?_
          refine wpS_take HS1 (by kernel_rfl) (by intro W hW; obtain ⟨r0, r1⟩ := hW.cells_at hk.out; clear hW; go_simp; try with_reducible rfl) ?_
          refine wpS_take HS1 (by kernel_rfl) (by intro W hW; obtain ⟨r0, r1⟩ := hW.cells_at hk.out; clear hW; go_simp; try with_reducible rfl) ?_
          refine wpS_skip HS1 (by kernel_rfl) ?_
          refine wpS_skip HS1 (by kernel_rfl) ?_
          refine wpS_skip HS1 (by kernel_rfl) ?_
          refine wpS_skip HS1 (by kernel_rfl) ?_
          refine wpS_skip HS1 (by kernel_rfl) ?_
          refine wpS_skip HS1 (by kernel_rfl) ?_
          refine wpS_skip HS1 (by kernel_rfl) ?_
          refine wpS_skip HS1 (by kernel_rfl) ?_
          refine wpS_skip HS1 (by kernel_rfl) ?_
          refine wpS_skip HS1 (by kernel_rfl) ?_
          refine wpS_skip HS1 (by kernel_rfl) ?_
          refine wpS_take HS1 (by kernel_rfl) (by intro W hW; obtain ⟨r0, r1⟩ := hW.cells_at hk.out; clear hW; go_simp; try with_reducible rfl) ?_
          refine wpS_take HS1 (by kernel_rfl) (by intro W hW; obtain ⟨r0, r1⟩ := hW.cells_at hk.out; clear hW; go_simp; try with_reducible rfl) ?_
          refine wpS_nil ?_
          try go_simp
          go_wp2
          go_roundw
          case rel => exact ⟨k + 1, by simp, by omega, by rw [hv.out]; rfl, HB1.out⟩
          case measure => simp [intOf]; omega
        | some m =>
          obtain ⟨hm, o, ho1⟩ := bestTo_ok L b k m hbo
          have hv := Lib.hid (hne m o rfl hbo ho1)
          have ho := Lib.hid ho1
          obtain ⟨oa, on⟩ := o
          simp only at hv
          have hmn : (m : Int) < n := by omega
          have hm0 : decide ((m : Int) < 0) = false := decide_eq_false (by omega)
          clear hno hfi hne hbo ho1
          rw [show bestV (some m) = (m : Int) from rfl]
          by_cases hlen : on < pn
          · have hleni : (on : Int) < pn := by omega
            rw [if_pos hlen] at hv
            go_wp2
            have HS0 : Hid (Pfs wr.drew (some ad) n L) := HLr.out.later ((Below.refl _ _).drew)
            have HB0 : Hid (Below w.heap.size w wr.drew) := hbw.drew
            refine wp_region_s (fun W => Pfs W (some ad) n L) [(0, true), (1, true), (2, true), (4, true), (3, true), (5, false), (6, true), (7, true), (8, true), (9, true), (10, true), (11, true), (12, true), (13, true), (15, true), (16, true), (17, true), (18, true), (14, true), (19, true), (20, true), (21, true), (22, true)] (by kernel_rfl) (fun _ d _ _ _ h => by cases d <;> exact h) ?_
            simp only [List.map_cons, List.map_nil, nthOp_zero, nthOp_succ]
            generalize wr.drew = w0 at *
            refine wpS_take HS0 (by kernel_rfl) (by intro W hW; obtain ⟨r0, r1⟩ := hW.cells_at hk.out; obtain ⟨o0, o1⟩ := hW.cells_at ho.out; clear hW; go_simp; try with_reducible rfl) ?_
            refine wpS_take HS0 (by kernel_rfl) (by intro W hW; obtain ⟨r0, r1⟩ := hW.cells_at hk.out; obtain ⟨o0, o1⟩ := hW.cells_at ho.out; clear hW; go_simp; try with_reducible rfl) ?_
            refine wpS_take HS0 (by kernel_rfl) (by intro W hW; obtain ⟨r0, r1⟩ := hW.cells_at hk.out; obtain ⟨o0, o1⟩ := hW.cells_at ho.out; clear hW; go_simp; try with_reducible rfl) ?_
            refine wpS_take HS0 (by kernel_rfl) (by intro W hW; obtain ⟨r0, r1⟩ := hW.cells_at hk.out; obtain ⟨o0, o1⟩ := hW.cells_at ho.out; clear hW; go_simp; try with_reducible rfl) ?_
            refine wpS_take HS0 (by kernel_rfl) (by intro W hW; obtain ⟨r0, r1⟩ := hW.cells_at hk.out; obtain ⟨o0, o1⟩ := hW.cells_at ho.out; clear hW; go_simp; try with_reducible rfl) ?_
            try go_simp
            refine wpS_do fun K1 hK1 => ?_
            go_wp2_with fail
            refine (HH.out _).mono ?_
            rintro e w1 ⟨rfl, hb1⟩
            have HS1 : Hid (Pfs w1 (some ad) n L) := HS0.out.later hb1
            have HB1 := Lib.hid (below_then HB0.out hb1)
            clear hb1 HS0 HB0
            go_wp2_with fail
            refine hK1.out _ _ HS1.out ?_
            clear hK1 K1
            refine wpS_take HS1 (by kernel_rfl) (by intro W hW; obtain ⟨r0, r1⟩ := hW.cells_at hk.out; obtain ⟨o0, o1⟩ := hW.cells_at ho.out; clear hW; go_simp; try with_reducible rfl) ?_
            refine wpS_take HS1 (by kernel_rfl) (by intro W hW; obtain ⟨r0, r1⟩ := hW.cells_at hk.out; obtain ⟨o0, o1⟩ := hW.cells_at ho.out; clear hW; go_simp; try with_reducible rfl) ?_
            refine wpS_take HS1 (by kernel_rfl) (by intro W hW; obtain ⟨r0, r1⟩ := hW.cells_at hk.out; obtain ⟨o0, o1⟩ := hW.cells_at ho.out; clear hW; go_simp; try with_reducible rfl) ?_
            refine wpS_take HS1 (by kernel_rfl) (by intro W hW; obtain ⟨r0, r1⟩ := hW.cells_at hk.out; obtain ⟨o0, o1⟩ := hW.cells_at ho.out; clear hW; go_simp; try with_reducible rfl) ?_
            refine wpS_take HS1 (by kernel_rfl) (by intro W hW; obtain ⟨r0, r1⟩ := hW.cells_at hk.out; obtain ⟨o0, o1⟩ := hW.cells_at ho.out; clear hW; go_simp; try with_reducible rfl) ?_
            refine wpS_take HS1 (by kernel_rfl) (by intro W hW; obtain ⟨r0, r1⟩ := hW.cells_at hk.out; obtain ⟨o0, o1⟩ := hW.cells_at ho.out; clear hW; go_simp; try with_reducible rfl) ?_
            refine wpS_take HS1 (by kernel_rfl) (by intro W hW; obtain ⟨r0, r1⟩ := hW.cells_at hk.out; obtain ⟨o0, o1⟩ := hW.cells_at ho.out; clear hW; go_simp; try with_reducible rfl) ?_
            refine wpS_take HS1 (by kernel_rfl) (by intro W hW; obtain ⟨r0, r1⟩ := hW.cells_at hk.out; obtain ⟨o0, o1⟩ := hW.cells_at ho.out; clear hW; go_simp; try with_reducible rfl) ?_
            refine wpS_take HS1 (by kernel_rfl) (by intro W hW; obtain ⟨r0, r1⟩ := hW.cells_at hk.out; obtain ⟨o0, o1⟩ := hW.cells_at ho.out; clear hW; go_simp; try with_reducible rfl) ?_
            refine wpS_take HS1 (by kernel_rfl) (by intro W hW; obtain ⟨r0, r1⟩ := hW.cells_at hk.out; obtain ⟨o0, o1⟩ := hW.cells_at ho.out; clear hW; go_simp; try with_reducible rfl) ?_
            refine wpS_take HS1 (by kernel_rfl) (by intro W hW; obtain ⟨r0, r1⟩ := hW.cells_at hk.out; obtain ⟨o0, o1⟩ := hW.cells_at ho.out; clear hW; go_simp; try with_reducible rfl) ?_
            refine wpS_take HS1 (by kernel_rfl) (by intro W hW; obtain ⟨r0, r1⟩ := hW.cells_at hk.out; obtain ⟨o0, o1⟩ := hW.cells_at ho.out; clear hW; go_simp; try with_reducible rfl) ?_
            refine wpS_take HS1 (by kernel_rfl) (by intro W hW; obtain ⟨r0, r1⟩ := hW.cells_at hk.out; obtain ⟨o0, o1⟩ := hW.cells_at ho.out; clear hW; go_simp; try with_reducible rfl) ?_
            refine wpS_take HS1 (by kernel_rfl) (by intro W hW; obtain ⟨r0, r1⟩ := hW.cells_at hk.out; obtain ⟨o0, o1⟩ := hW.cells_at ho.out; clear hW; go_simp; try with_reducible rfl) ?_
            refine wpS_take HS1 (by kernel_rfl) (by intro W hW; obtain ⟨r0, r1⟩ := hW.cells_at hk.out; obtain ⟨o0, o1⟩ := hW.cells_at ho.out; clear hW; go_simp; try with_reducible rfl) ?_
            refine wpS_take HS1 (by kernel_rfl) (by intro W hW; obtain ⟨r0, r1⟩ := hW.cells_at hk.out; obtain ⟨o0, o1⟩ := hW.cells_at ho.out; clear hW; go_simp; try with_reducible rfl) ?_
            refine wpS_take HS1 (by kernel_rfl) (by intro W hW; obtain ⟨r0, r1⟩ := hW.cells_at hk.out; obtain ⟨o0, o1⟩ := hW.cells_at ho.out; clear hW; go_simp; try with_reducible rfl) ?_
            refine wpS_nil ?_
            try go_simp
            go_wp2
            go_roundw
            case rel => exact ⟨k + 1, by simp, by omega, by rw [hv.out]; rfl, HB1.out⟩
            case measure => simp [intOf]; omega
          · have hleni : decide (on < pn) = false := decide_eq_false hlen
            rw [if_neg hlen] at hv
            go_wp2
            have HS0 : Hid (Pfs wr.drew (some ad) n L) := HLr.out.later ((Below.refl _ _).drew)
            have HB0 : Hid (Below w.heap.size w wr.drew) := hbw.drew
            refine wp_region_s (fun W => Pfs W (some ad) n L) [(0, true), (1, true), (2, true), (4, true), (3, true), (5, false), (6, true), (7, true), (8, true), (9, true), (10, true), (11, true), (12, true), (13, true), (15, true), (16, true), (17, true), (18, true), (14, true), (19, true), (20, true), (21, true), (22, true)] (by kernel_rfl) (fun _ d _ _ _ h => by cases d <;> exact h) ?_
            simp only [List.map_cons, List.map_nil, nthOp_zero, nthOp_succ]
            generalize wr.drew = w0 at *
            refine wpS_take HS0 (by kernel_rfl) (by intro W hW; obtain ⟨r0, r1⟩ := hW.cells_at hk.out; obtain ⟨o0, o1⟩ := hW.cells_at ho.out; clear hW; go_simp; try with_reducible rfl) ?_
            refine wpS_take HS0 (by kernel_rfl) (by intro W hW; obtain ⟨r0, r1⟩ := hW.cells_at hk.out; obtain ⟨o0, o1⟩ := hW.cells_at ho.out; clear hW; go_simp; try with_reducible rfl) ?_
            refine wpS_take HS0 (by kernel_rfl) (by intro W hW; obtain ⟨r0, r1⟩ := hW.cells_at hk.out; obtain ⟨o0, o1⟩ := hW.cells_at ho.out; clear hW; go_simp; try with_reducible rfl) ?_
            refine wpS_take HS0 (by kernel_rfl) (by intro W hW; obtain ⟨r0, r1⟩ := hW.cells_at hk.out; obtain ⟨o0, o1⟩ := hW.cells_at ho.out; clear hW; go_simp; try with_reducible rfl) ?_
            refine wpS_take HS0 (by kernel_rfl) (by intro W hW; obtain ⟨r0, r1⟩ := hW.cells_at hk.out; obtain ⟨o0, o1⟩ := hW.cells_at ho.out; clear hW; go_simp; try with_reducible rfl) ?_
            try go_simp
            refine wpS_do fun K1 hK1 => ?_
            go_wp2_with fail
            refine (HH.out _).mono ?_
            rintro e w1 ⟨rfl, hb1⟩
            have HS1 : Hid (Pfs w1 (some ad) n L) := HS0.out.later hb1
            have HB1 := Lib.hid (below_then HB0.out hb1)
            clear hb1 HS0 HB0
            go_wp2_with fail
            refine hK1.out _ _ HS1.out ?_
            clear hK1 K1
            refine wpS_take HS1 (by kernel_rfl) (by intro W hW; obtain ⟨r0, r1⟩ := hW.cells_at hk.out; obtain ⟨o0, o1⟩ := hW.cells_at ho.out; clear hW; go_simp; try with_reducible rfl) ?_
            refine wpS_take HS1 (by kernel_rfl) (by intro W hW; obtain ⟨r0, r1⟩ := hW.cells_at hk.out; obtain ⟨o0, o1⟩ := hW.cells_at ho.out; clear hW; go_simp; try with_reducible rfl) ?_
            refine wpS_take HS1 (by kernel_rfl) (by intro W hW; obtain ⟨r0, r1⟩ := hW.cells_at hk.out; obtain ⟨o0, o1⟩ := hW.cells_at ho.out; clear hW; go_simp; try with_reducible rfl) ?_
            refine wpS_take HS1 (by kernel_rfl) (by intro W hW; obtain ⟨r0, r1⟩ := hW.cells_at hk.out; obtain ⟨o0, o1⟩ := hW.cells_at ho.out; clear hW; go_simp; try with_reducible rfl) ?_
            refine wpS_take HS1 (by kernel_rfl) (by intro W hW; obtain ⟨r0, r1⟩ := hW.cells_at hk.out; obtain ⟨o0, o1⟩ := hW.cells_at ho.out; clear hW; go_simp; try with_reducible rfl) ?_
            refine wpS_take HS1 (by kernel_rfl) (by intro W hW; obtain ⟨r0, r1⟩ := hW.cells_at hk.out; obtain ⟨o0, o1⟩ := hW.cells_at ho.out; clear hW; go_simp; try with_reducible rfl) ?_
            refine wpS_take HS1 (by kernel_rfl) (by intro W hW; obtain ⟨r0, r1⟩ := hW.cells_at hk.out; obtain ⟨o0, o1⟩ := hW.cells_at ho.out; clear hW; go_simp; try with_reducible rfl) ?_
            refine wpS_take HS1 (by kernel_rfl) (by intro W hW; obtain ⟨r0, r1⟩ := hW.cells_at hk.out; obtain ⟨o0, o1⟩ := hW.cells_at ho.out; clear hW; go_simp; try with_reducible rfl) ?_
            refine wpS_take HS1 (by kernel_rfl) (by intro W hW; obtain ⟨r0, r1⟩ := hW.cells_at hk.out; obtain ⟨o0, o1⟩ := hW.cells_at ho.out; clear hW; go_simp; try with_reducible rfl) ?_
            refine wpS_take HS1 (by kernel_rfl) (by intro W hW; obtain ⟨r0, r1⟩ := hW.cells_at hk.out; obtain ⟨o0, o1⟩ := hW.cells_at ho.out; clear hW; go_simp; try with_reducible rfl) ?_
            refine wpS_take HS1 (by kernel_rfl) (by intro W hW; obtain ⟨r0, r1⟩ := hW.cells_at hk.out; obtain ⟨o0, o1⟩ := hW.cells_at ho.out; clear hW; go_simp; try with_reducible rfl) ?_
            refine wpS_take HS1 (by kernel_rfl) (by intro W hW; obtain ⟨r0, r1⟩ := hW.cells_at hk.out; obtain ⟨o0, o1⟩ := hW.cells_at ho.out; clear hW; go_simp; try with_reducible rfl) ?_
            refine wpS_take HS1 (by kernel_rfl) (by intro W hW; obtain ⟨r0, r1⟩ := hW.cells_at hk.out; obtain ⟨o0, o1⟩ := hW.cells_at ho.out; clear hW; go_simp; try with_reducible rfl) ?_
            refine wpS_take HS1 (by kernel_rfl) (by intro W hW; obtain ⟨r0, r1⟩ := hW.cells_at hk.out; obtain ⟨o0, o1⟩ := hW.cells_at ho.out; clear hW; go_simp; try with_reducible rfl) ?_
            refine wpS_take HS1 (by kernel_rfl) (by intro W hW; obtain ⟨r0, r1⟩ := hW.cells_at hk.out; obtain ⟨o0, o1⟩ := hW.cells_at ho.out; clear hW; go_simp; try with_reducible rfl) ?_
            refine wpS_take HS1 (by kernel_rfl) (by intro W hW; obtain ⟨r0, r1⟩ := hW.cells_at hk.out; obtain ⟨o0, o1⟩ := hW.cells_at ho.out; clear hW; go_simp; try with_reducible rfl) ?_
            refine wpS_take HS1 (by kernel_rfl) (by intro W hW; obtain ⟨r0, r1⟩ := hW.cells_at hk.out; obtain ⟨o0, o1⟩ := hW.cells_at ho.out; clear hW; go_simp; try with_reducible rfl) ?_
            refine wpS_nil ?_
            try go_simp
            go_wp2
            go_roundw
            case rel => exact ⟨k + 1, by simp, by omega, by rw [hv.out]; rfl, HB1.out⟩
            case measure => simp [intOf]; omega
    · obtain rfl : k = n := by omega
      go_wp2
      go_ret
      exact ⟨rfl, hbw⟩
end Go.Proofs.YtljmmpjcagchmaaDoor
