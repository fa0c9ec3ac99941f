/-
  lodestarref00's num, EqPrefixes, WidePrefixes, SparePrefixes, walked.
-/
import Derived.Test.YtljmmpjcagchmaaDoorPfx15
namespace Go.Proofs.YtljmmpjcagchmaaDoor
set_option linter.unusedVariables false
open Go.RowKit

theorem num_any (i : Nat) (w : World) (h : i ≤ 1000000) : Calls Tryd.prog 38 #[.int .i64 9, .int .i64 i] w fun e w' => e = .returned (.int .i64 (9437185 + i : Nat)) ∧ w = w' := by
  go_enter Tryd.func38, Tryd.ntmps38
  go_wp2
  go_ret
  refine ⟨?_, rfl⟩
  rw [show ((9437185 + i : Nat) : Int) = 9437184 + i + 1 by omega]
  rfl

/-- The marks behind a list of n prefixes. -/
def markP (i : Nat) : Pf := ⟨9437185 + i, 0⟩
def marksP (n : Nat) : List Pf := (List.range 64).map fun j => markP (n + j)
def wideP (L : List Pf) : List Pf := L ++ marksP L.length
theorem wideP_len (L : List Pf) : (wideP L).length = L.length + 64 := by simp [wideP, marksP]
theorem wideP_low {L : List Pf} {k : Nat} {p : Pf} (h : L[k]? = some p) : (wideP L)[k]? = some p := by
  unfold wideP
  rw [List.getElem?_append_left (List.getElem?_eq_some_iff.1 h).1, h]
theorem wideP_high {L : List Pf} {k : Nat} (h1 : L.length ≤ k) (h2 : k < L.length + 64) : (wideP L)[k]? = some (markP k) := by
  unfold wideP
  rw [List.getElem?_append_right h1]
  unfold marksP
  rw [List.getElem?_map, List.getElem?_range (by omega)]
  simp only [Option.map_some]
  congr 2
  omega
theorem wideP_take (L : List Pf) : (wideP L).take L.length = L := by simp [wideP]
/-- The first k of M, noughts behind. -/
def filP (M : List Pf) (k : Nat) : List Pf := M.take k ++ List.replicate (M.length - k) ⟨0, 0⟩
theorem filP_len (M : List Pf) {k : Nat} (h : k ≤ M.length) : (filP M k).length = M.length := by simp [filP]; omega
theorem filP_full (M : List Pf) {k : Nat} (h : M.length ≤ k) : filP M k = M := by
  unfold filP
  rw [List.take_of_length_le h, show M.length - k = 0 by omega]
  simp
theorem filP_at (M : List Pf) {k : Nat} (h : k < M.length) : (filP M k)[k]? = some ⟨0, 0⟩ := by
  unfold filP
  have hm : min k M.length = k := by omega
  rw [List.getElem?_append_right (by simp [hm])]
  simp [hm, List.getElem?_replicate]
  omega
theorem filP_set (M : List Pf) {k : Nat} {p : Pf} (h : M[k]? = some p) : (filP M k).set k p = filP M (k + 1) := by
  have hl : k < M.length := (List.getElem?_eq_some_iff.1 h).1
  unfold filP
  have hm : min k M.length = k := by omega
  rw [List.set_append_right _ _ (by simp [hm])]
  rw [List.length_take, hm, Nat.sub_self, show M.length - k = (M.length - (k + 1)) + 1 by omega, List.replicate_succ, List.set_cons_zero, List.take_add_one, h]
  simp
def cells2 (M : List Pf) : Array Value := (M.flatMap Pf.cells).toArray
theorem cells2_at {M : List Pf} {i j : Nat} {p : Pf} {u : Value} (h : M[i]? = some p) (hu : p.cells[j]? = some u) (hj : j < 2) : (cells2 M)[i * 2 + j]? = some u := by
  unfold cells2
  rw [List.getElem?_toArray]
  exact flat2_get M i j p u h hu hj
theorem flat_set (M : List Pf) : ∀ (k : Nat) (p : Pf), k < M.length → ((M.flatMap Pf.cells).set (k * 2) (.int .u32 p.a)).set (k * 2 + 1) (.int .u8 p.n) = (M.set k p).flatMap Pf.cells := by
  induction M with
  | nil => intro k p h; simp at h
  | cons a r ih =>
    intro k p h
    cases k with
    | zero => rfl
    | succ k =>
      have := ih k p (by simpa using h)
      rw [List.flatMap_cons, List.set_cons_succ, List.flatMap_cons, ← this, show (k + 1) * 2 = k * 2 + 2 by omega, show k * 2 + 2 + 1 = k * 2 + 1 + 2 by omega]
      rfl
theorem cells2_set {M : List Pf} {k : Nat} {p : Pf} (h : k < M.length) : ((cells2 M).setIfInBounds (k * 2) (.int .u32 p.a)).setIfInBounds (k * 2 + 1) (.int .u8 p.n) = cells2 (M.set k p) := by
  unfold cells2
  rw [List.setIfInBounds_toArray, List.setIfInBounds_toArray, flat_set M k p h]
theorem cells2_zero (n : Nat) : madeCells #[.int .u32 0, .int .u8 0] (n * 2) = cells2 (List.replicate n ⟨0, 0⟩) := by
  apply Array.ext_getElem?
  intro j
  rcases Nat.lt_or_ge j (n * 2) with h | h
  · have hr : (List.replicate n (⟨0, 0⟩ : Pf))[j / 2]? = some ⟨0, 0⟩ := by rw [List.getElem?_replicate, if_pos (by omega)]
    rcases Nat.mod_two_eq_zero_or_one j with h2 | h2
    · have e := cells2_at (j := 0) (u := .int .u32 0) hr rfl (by decide)
      rw [show j / 2 * 2 + 0 = j by omega] at e
      rw [e]
      simp [madeCells, h, h2]
    · have e := cells2_at (j := 1) (u := .int .u8 0) hr rfl (by decide)
      rw [show j / 2 * 2 + 1 = j by omega] at e
      rw [e]
      simp [madeCells, h, h2]
  · rw [Array.getElem?_eq_none (by simp [madeCells]; omega), Array.getElem?_eq_none]
    have : ∀ n, (cells2 (List.replicate n ⟨0, 0⟩)).size = n * 2 := by
      intro n
      unfold cells2
      rw [List.size_toArray]
      induction n with
      | zero => rfl
      | succ n ih => rw [List.replicate_succ, List.flatMap_cons, List.length_append, ih]; simp [Pf.cells]; omega
    rw [this]; omega

theorem info_pfx : (Tryd.prog.info? 31).map (fun i => (i.zero, i.size, i.bytes)) = some (some (.agg #[.int .u32 0, .int .u8 0]), 2, 8) := by kernel_rfl
theorem run_make_pfx (n : Nat) (hn : n ≤ 2000000) (w : World) :
    (Instr.makeSlice 22 (.int .i64 (n : Int)) (.int .i64 (n : Int))).run Tryd.prog w = .ok (.slice (some ⟨w.heap.size, 0, none⟩) n n) (w.alloc (.cells (cells2 (List.replicate n ⟨0, 0⟩)) 31)) := by
  obtain ⟨i, hi, hzz⟩ := Option.map_eq_some_iff.1 info_pfx
  simp only [Prod.mk.injEq] at hzz
  obtain ⟨hz, hs, hb⟩ := hzz
  have hr := run_make (P := Tryd.prog) w 22 31 i _ Tryd.underlying22 hi hz .i64 .i64 n n (by omega) (Int.le_refl _) (by rw [hb]; omega) (by omega)
  simp only [Int.toNat_natCast, hs] at hr
  rw [show Value.cells (.agg #[.int .u32 0, .int .u8 0]) = #[.int .u32 0, .int .u8 0] from rfl, cells2_zero] at hr
  exact hr
theorem Pfs.of_blk {w : World} {g : Nat} {M : List Pf} (h : Blk w g 31 (cells2 M)) {n : Nat} (hn : n ≤ M.length) (hok : ∀ p ∈ M.take n, p.ok) : Pfs w (some ⟨g, 0, none⟩) n (M.take n) := by
  refine ⟨⟨?_, fun h0 => ⟨_, rfl, h.lt, fun j u hu => ?_⟩⟩, by simp [hn], hok⟩
  · have : ∀ L : List Pf, (L.flatMap Pf.cells).length = L.length * 2 := by
      intro L
      induction L with
      | nil => rfl
      | cons a L ih => rw [List.flatMap_cons, List.length_append, ih]; simp [Pf.cells]; omega
    rw [this]; simp [hn]
  · rw [add_none, Nat.zero_add, h.cell]
    have e : (M.take n).flatMap Pf.cells ++ (M.drop n).flatMap Pf.cells = M.flatMap Pf.cells := by rw [← List.flatMap_append, List.take_append_drop]
    unfold cells2
    rw [List.getElem?_toArray, ← e, List.getElem?_append_left (List.getElem?_eq_some_iff.1 hu).1]
    exact hu

set_option maxRecDepth 100000 in
set_option maxHeartbeats 2000000 in
theorem eqPrefixes_yes (A A' : Option Addr) (n c c' : Nat) (L : List Pf) (w : World) (hx : Pfs w A n L) (hy : Pfs w A' n L) (hn : n ≤ 1000000) :
    Calls Tryd.prog 11 #[.slice A n c, .slice A' n c'] w fun e w' => e = .returned (.bool true) ∧ Below w.heap.size w w' := by
  have HX := Lib.hid hx
  have HY := Lib.hid hy
  clear hx hy
  go_enter Tryd.func11, Tryd.ntmps11
  go_wp2
  go_loopw [5] (fun i wr => ∃ k : Nat, i = .int .i64 k ∧ k ≤ n ∧ ∃ d, wr = w.drewN d) (fun i _ => n - (intOf i).toNat)
  case atStart => exact ⟨0, rfl, by omega, 0, rfl⟩
  case round =>
    obtain ⟨k, rfl, hk, d, rfl⟩ := hrel
    by_cases hlt : k < n
    · obtain ⟨ad, rfl, _⟩ := HX.out.some_ (by omega)
      obtain ⟨ad', rfl, _⟩ := HY.out.some_ (by omega)
      obtain ⟨p, hp⟩ : ∃ p, L[k]? = some p := ⟨_, List.getElem?_eq_getElem (by rw [HX.out.len]; exact hlt)⟩
      have c1 := HX.out.cells_at hp
      have c2 := HY.out.cells_at hp
      obtain ⟨x, y⟩ := p
      obtain ⟨c1, c3⟩ := c1
      obtain ⟨c2, c4⟩ := c2
      clear hp
      go_wp2
      go_quiet (fail)
      go_wp2
      go_roundw
      case rel => exact ⟨k + 1, by go_num, by omega, _, rfl⟩
      case measure => simp [intOf]; omega
    · obtain rfl : n = k := by omega
      go_wp2
      go_ret
      exact ⟨rfl, below_of_drewN _ _ _⟩

/-- What WidePrefixes leaves. -/
def WidePAt (w w' : World) (L : List Pf) (e : Ending) : Prop :=
  ∃ g, e = .returned (.slice (some ⟨g, 0, none⟩) L.length (L.length + 64)) ∧ Blk w' g 31 (cells2 (wideP L)) ∧ Below w.heap.size w w'
set_option maxRecDepth 100000 in
set_option maxHeartbeats 2000000 in
theorem widePrefixes_any (A : Option Addr) (n c : Nat) (L : List Pf) (w : World) (hx : Pfs w A n L) (hn : n ≤ 16384) :
    Calls Tryd.prog 8 #[.slice A n c] w fun e w' => WidePAt w w' L e := by
  have hmk := fun W => run_make_pfx (n + 64) (by omega) W
  have ec : ((n + 64 : Nat) : Int) = (n : Int) + 64 := by omega
  rw [ec] at hmk
  have HX := Lib.hid hx
  have hwl : (wideP L).length = n + 64 := by rw [wideP_len, hx.len]
  have hz0 : List.replicate (n + 64) (⟨0, 0⟩ : Pf) = filP (wideP L) 0 := by simp [filP, hwl]
  rw [hz0] at hmk
  have HW := Lib.hid hwl
  have hlen := hx.len
  have Hlen := Lib.hid hlen
  clear hx hwl hz0 ec hlen
  go_enter Tryd.func8, Tryd.ntmps8
  go_wp2
  go_loopw [4] (fun i wr => ∃ k : Nat, i = .int .i64 k ∧ k ≤ n + 64 ∧ Hid (Blk wr w.heap.size 31 (cells2 (filP (wideP L) k))) ∧ Hid (Below w.heap.size w wr)) (fun i _ => n + 64 - (intOf i).toNat)
  case atStart => exact ⟨0, rfl, by omega, Lib.hid (Blk.new _ _ _), Lib.hid ((Below.refl _ _).alloc (Nat.le_refl _) _)⟩
  case round =>
    obtain ⟨k, rfl, hk, hblk, hbel⟩ := hrel
    by_cases hlt : k < n
    · obtain ⟨ad, rfl, _⟩ := HX.out.some_ (by omega)
      obtain ⟨p, hp⟩ : ∃ p, L[k]? = some p := ⟨_, List.getElem?_eq_getElem (by rw [Hlen.out]; exact hlt)⟩
      have c1 := (HX.out.later hbel.out).cells_at hp
      have hf := filP_at (wideP L) (k := k) (by rw [HW.out]; omega)
      have c2 : wr.cell? ⟨w.heap.size, k * 2, none⟩ = some (.int .u32 0) := by rw [hblk.out.cell]; exact cells2_at (j := 0) hf rfl (by decide)
      have c3 : wr.cell? ⟨w.heap.size, k * 2 + 1, none⟩ = some (.int .u8 0) := by rw [hblk.out.cell]; exact cells2_at (j := 1) hf rfl (by decide)
      have f2 := hblk.out.frozen (k * 2)
      have f3 := hblk.out.frozen (k * 2 + 1)
      have HPk := Lib.hid (wideP_low hp)
      obtain ⟨x, y⟩ := p
      obtain ⟨c1, c4⟩ := c1
      clear hp hf
      go_wp2
      go_roundw
      case rel =>
        refine ⟨k + 1, by go_num, by omega, Lib.hid ?_, Lib.hid ((hbel.out.setCell (Nat.le_refl _) _).setCell (Nat.le_refl _) _)⟩
        have h1 := (hblk.out.set_ (k * 2) (.int .u32 x)).set_ (k * 2 + 1) (.int .u8 y)
        rw [show (Value.int .u32 x) = .int .u32 (Pf.mk x y).a from rfl, show (Value.int .u8 y) = .int .u8 (Pf.mk x y).n from rfl, cells2_set (by rw [filP_len _ (by rw [HW.out]; exact hk), HW.out]; omega), filP_set _ HPk.out] at h1
        exact h1
      case measure => simp [intOf]; omega
    · by_cases hlt2 : k < n + 64
      · have hf := filP_at (wideP L) (k := k) (by rw [HW.out]; omega)
        have c2 : wr.cell? ⟨w.heap.size, k * 2, none⟩ = some (.int .u32 0) := by rw [hblk.out.cell]; exact cells2_at (j := 0) hf rfl (by decide)
        have c3 : wr.cell? ⟨w.heap.size, k * 2 + 1, none⟩ = some (.int .u8 0) := by rw [hblk.out.cell]; exact cells2_at (j := 1) hf rfl (by decide)
        have f2 := hblk.out.frozen (k * 2)
        have f3 := hblk.out.frozen (k * 2 + 1)
        have HPk := Lib.hid (wideP_high (L := L) (k := k) (by rw [Hlen.out]; omega) (by rw [Hlen.out]; omega))
        have HN := Lib.hid (fun W => num_any k W (by omega))
        clear hf
        go_wp2_with fail
        refine (HN.out _).mono ?_
        rintro e w_ ⟨rfl, rfl⟩
        go_wp2_with fail
        go_roundw
        case rel =>
          refine ⟨k + 1, by go_num, by omega, Lib.hid ?_, Lib.hid ((hbel.out.setCell (Nat.le_refl _) _).setCell (Nat.le_refl _) _)⟩
          have h1 := (hblk.out.set_ (k * 2) (.int .u32 (markP k).a)).set_ (k * 2 + 1) (.int .u8 (markP k).n)
          rw [cells2_set (by rw [filP_len _ (by rw [HW.out]; exact hk), HW.out]; omega), filP_set _ HPk.out] at h1
          exact h1
        case measure => simp [intOf]; omega
      · obtain rfl : k = n + 64 := by omega
        go_wp2
        go_ret
        have h1 := hblk.out
        rw [filP_full _ (by rw [HW.out]; exact Nat.le_refl _)] at h1
        exact ⟨w.heap.size, by rw [Hlen.out]; rfl, h1, hbel.out⟩

set_option maxRecDepth 100000 in
set_option maxHeartbeats 2000000 in
theorem sparePrefixes_yes (g n : Nat) (L : List Pf) (w : World) (hb : Blk w g 31 (cells2 (wideP L))) (hlen : L.length = n) (hn : n ≤ 16384) :
    Calls Tryd.prog 12 #[.slice (some ⟨g, 0, none⟩) n (n + 64)] w fun e w' => e = .returned (.bool true) ∧ Below w.heap.size w w' := by
  have HB := Lib.hid hb
  have Hlen := Lib.hid hlen
  clear hb hlen
  go_enter Tryd.func12, Tryd.ntmps12
  go_wp2
  go_loopw [4] (fun i wr => ∃ k : Nat, i = .int .i64 k ∧ n ≤ k ∧ k ≤ n + 64 ∧ Hid (Below w.heap.size w wr)) (fun i _ => n + 64 - (intOf i).toNat)
  case atStart => exact ⟨n, rfl, by omega, by omega, Lib.hid (Below.refl _ _)⟩
  case round =>
    obtain ⟨k, rfl, hk1, hk2, hbel⟩ := hrel
    by_cases hlt : k < n + 64
    · have hp := wideP_high (L := L) (k := k) (by rw [Hlen.out]; omega) (by rw [Hlen.out]; omega)
      have hblk := HB.out.later hbel.out
      have c2 : wr.cell? ⟨g, k * 2, none⟩ = some (.int .u32 (9437185 + (k : Int))) := by rw [hblk.cell]; exact cells2_at (j := 0) hp rfl (by decide)
      have c3 : wr.cell? ⟨g, k * 2 + 1, none⟩ = some (.int .u8 0) := by rw [hblk.cell]; exact cells2_at (j := 1) hp rfl (by decide)
      have HN : Hid (∀ W : World, Calls Tryd.prog 38 #[.int .i64 9, .int .i64 k] W fun e w' => e = .returned (.int .i64 (9437185 + (k : Int))) ∧ W = w') := Lib.hid (fun W => num_any k W (by omega))
      have hwr : IntKind.u32.wrap (9437185 + (k : Int)) = 9437185 + k := by rw [IntKind.wrap_u32]; omega
      clear hp hblk
      go_wp2_with fail
      have HS0 : Hid (Blk (wr.alloc (.cells #[.int .u32 (9437185 + (k : Int)), .int .u8 0] 31)).drew wr.heap.size 31 #[.int .u32 (9437185 + (k : Int)), .int .u8 0]) := Lib.hid ((Blk.new wr _ _).drewN 1)
      have HB0 : Hid (Below w.heap.size w (wr.alloc (.cells #[.int .u32 (9437185 + (k : Int)), .int .u8 0] 31)).drew) := Lib.hid (hbel.out.alloc hbel.out.size _).drew
      refine wp_region_s (fun W => Blk W wr.heap.size 31 #[.int .u32 (9437185 + (k : Int)), .int .u8 0]) [(1, true), (0, true), (2, false), (3, true), (4, true), (5, true), (6, true)] (by kernel_rfl) (fun _ d _ _ _ h => by cases d <;> exact h) ?_
      simp only [List.map_cons, List.map_nil, nthOp_zero, nthOp_succ]
      generalize (wr.alloc (.cells #[.int .u32 (9437185 + (k : Int)), .int .u8 0] 31)).drew = w0 at *
      refine wpS_take HS0 (by kernel_rfl) (by intro W hW; clear hW; go_simp; try with_reducible rfl) ?_
      refine wpS_take HS0 (by kernel_rfl) (by intro W hW; have q0 := hW.cell 0; have q1 := hW.cell 1; clear hW; simp only [List.getElem?_toArray, List.getElem?_cons_zero, List.getElem?_cons_succ] at q0 q1; go_simp; try with_reducible rfl) ?_
      try go_simp
      refine wpS_do fun K1 hK1 => ?_
      go_wp2_with fail
      refine (HN.out _).mono ?_
      rintro e w_ ⟨rfl, rfl⟩
      go_wp2_with fail
      refine hK1.out _ _ HS0.out ?_
      clear hK1 K1
      refine wpS_take HS0 (by kernel_rfl) (by intro W hW; clear hW; go_simp; try with_reducible rfl) ?_
      refine wpS_take HS0 (by kernel_rfl) (by intro W hW; clear hW; go_simp; try with_reducible rfl) ?_
      refine wpS_take HS0 (by kernel_rfl) (by intro W hW; clear hW; go_simp; try with_reducible rfl) ?_
      refine wpS_take HS0 (by kernel_rfl) (by intro W hW; clear hW; go_simp; try with_reducible rfl) ?_
      refine wpS_nil ?_
      try go_simp
      go_wp2_with fail
      go_roundw
      case rel => exact ⟨k + 1, by go_num, by omega, by omega, HB0⟩
      case measure => simp [intOf]; omega
    · obtain rfl : k = n + 64 := by omega
      go_wp2
      go_ret
      exact ⟨rfl, hbel.out⟩
end Go.Proofs.YtljmmpjcagchmaaDoor
