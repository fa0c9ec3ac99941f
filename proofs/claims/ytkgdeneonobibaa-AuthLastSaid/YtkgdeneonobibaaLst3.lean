/-
  The reference's Last: a list of pairs, walked.
-/
import Derived.Test.YtkgdeneonobibaaLst2
namespace Go.Proofs.Ytkgdeneonobibaa
set_option linter.unusedVariables false
open Go.RowKit

def cellsD (D : List (Int × Int)) : List Value := D.flatMap fun p => [.int .u32 p.1, .int .u32 p.2]
theorem cellsD_get (D : List (Int × Int)) : ∀ (i : Nat) (p : Int × Int), D[i]? = some p → (cellsD D)[i * 2]? = some (.int .u32 p.1) ∧ (cellsD D)[i * 2 + 1]? = some (.int .u32 p.2) := by
  induction D with
  | nil => intro i p h; simp at h
  | cons a D ih =>
    intro i p h
    cases i with
    | zero => simp at h; subst h; exact ⟨rfl, rfl⟩
    | succ i =>
      have := ih i p (by simpa using h)
      have e : (i + 1) * 2 = i * 2 + 2 := by omega
      rw [e]
      exact this
structure DL (w : World) (base g : Nat) (D : List (Int × Int)) : Prop where
  row : ∃ v, Blk w g 54 #[v] ∧ w.ownsRow base 98 2 v D.length (cellsD D)
theorem row_shape {w : World} {base n : Nat} {v : Value} {xs : List Value} (h : w.ownsRow base 98 2 v n xs) : ∃ A c, v = .slice A n c ∧ n ≤ c ∧ c ≤ 9223372036854775807 ∧ Reads w w.heap.size 2 A n xs := by
  rcases h.2 with ⟨hv, h0⟩ | ⟨g, cap, cur, hv, hb, hc, h1, h2, h3, h4⟩
  · subst h0
    exact ⟨none, 0, hv, Nat.le_refl _, by omega, h.1, fun h => absurd h (by omega)⟩
  · refine ⟨_, cap, hv, h1, h2, h.1, fun _ => ⟨_, rfl, (Blk.lt (show Blk w g 98 cur from hc)), fun j u hu => ?_⟩⟩
    rw [add_none, Nat.zero_add, Blk.cell (show Blk w g 98 cur from hc) j]
    rw [← h4, List.getElem?_take] at hu
    split at hu
    · simpa using hu
    · cases hu
theorem pair_at {w : World} {B n i : Nat} {A : Option Addr} {D : List (Int × Int)} (h : Reads w B 2 A n (cellsD D)) (hi : i < n) (hl : D.length = n) : ∃ ad p, A = some ad ∧ Hid (D[i]? = some p) ∧
    w.cell? (ad.add (i * 2)) = some (.int .u32 p.1) ∧ w.cell? ⟨(ad.add (i * 2)).block, (ad.add (i * 2)).off + 1, none⟩ = some (.int .u32 p.2) := by
  obtain ⟨ad, e, hb, hc⟩ := h.2 (by omega)
  have hp : D[i]? = some D[i] := List.getElem?_eq_getElem (by omega)
  obtain ⟨h1, h2⟩ := cellsD_get D i _ hp
  exact ⟨ad, D[i], e, hp, hc _ _ h1, add_lit ad _ 1 (by decide) ▸ hc _ _ h2⟩
def GtRel (w : World) (D : List (Int × Int)) (r : Int) (n : Nat) (i : Value) (wr : World) : Prop := ∃ j : Nat, i = .int .i64 j ∧ j ≤ n ∧ (∀ p ∈ D.take j, (p.1 == r) = false) ∧ wr = w
set_option maxHeartbeats 1000000 in
theorem refGet_any (w : World) (base g : Nat) (D : List (Int × Int)) (r : Int) (h : DL w base g D) : Calls Try.prog 28 #[.pointer (some ⟨g, 0, none⟩), .int .u32 r] w fun e w' => e = .returned (getV (pget D r)) ∧ w = w' := by
  obtain ⟨v, hb, ho⟩ := h.row
  obtain ⟨A, c, rfl, hc, hm, hR⟩ := row_shape ho
  have h0 : w.cell? ⟨g, 0, none⟩ = some (.slice A D.length c) := hb.cell 0
  have HR := Lib.hid hR
  have hlen : Hid (D.length = D.length) := rfl
  generalize hn : D.length = n at h0 HR hc hm
  clear hb ho h hR hlen
  go_enter Try.func28, Try.ntmps28
  go_wp2
  go_loopw [6] (GtRel w D r n) (fun i _ => n - (intOf i).toNat)
  case atStart => exact ⟨0, rfl, by omega, by simp, rfl⟩
  case round =>
    obtain ⟨j, rfl, hj, hno, rfl⟩ := hrel
    have HNO : Hid (∀ p ∈ D.take j, (p.1 == r) = false) := hno
    clear hno
    by_cases hlt : j < n
    · obtain ⟨ad, p, rfl, hp, c0, c1⟩ := pair_at HR.out hlt hn
      obtain ⟨q, s⟩ := p
      simp only at c0 c1
      cases hq : (q == r)
      · go_wp2
        go_roundw
        case rel =>
          refine ⟨j + 1, by simp, by omega, ?_, rfl⟩
          intro p hp2
          rw [List.take_add_one, List.mem_append] at hp2
          rcases hp2 with h | h
          · exact HNO.out p h
          · rw [hp.out] at h
            simp at h
            subst h
            exact hq
        case measure => simp [intOf]; omega
      · have hv : Hid (pget D r = some s) := by
          show _ = _
          have e : D = D.take j ++ (q, s) :: D.drop (j + 1) := by
            have l := (List.getElem?_eq_some_iff.1 hp.out).1
            have e2 := (List.getElem?_eq_some_iff.1 hp.out).2
            rw [← e2]
            rw [← List.drop_eq_getElem_cons l, List.take_append_drop]
          unfold pget
          rw [e, List.find?_append, List.find?_eq_none.2 (fun p hp2 => by rw [HNO.out p hp2]; decide)]
          simp [hq]
        go_wp2
        go_ret2
        exact ⟨by rw [hv.out]; rfl, rfl⟩
    · obtain rfl : j = n := by omega
      have hv : Hid (pget D r = none) := by
        show _ = _
        unfold pget
        have h := HNO.out
        rw [List.take_of_length_le (by omega)] at h
        rw [List.find?_eq_none.2 (fun p hp2 => by rw [h p hp2]; decide)]
        rfl
      go_wp2
      go_ret2
      exact ⟨by rw [hv.out]; rfl, rfl⟩
theorem info_one : (Try.prog.info? 98).map (fun i => (i.zero, i.size, i.bytes)) = some (some (.agg #[.int .u32 0, .int .u32 0]), 2, 8) := by kernel_rfl
theorem el_one : El Try.prog 52 98 2 8 := El.mk' Try.underlying52 info_one rfl (by omega)
theorem cellsD_app (D E : List (Int × Int)) : cellsD (D ++ E) = cellsD D ++ cellsD E := by unfold cellsD; rw [List.flatMap_append]
theorem pair_one (q s : Int) : ∀ u ∈ cellsD [(q, s)], u.oneCell' = true := by
  intro u hu
  simp [cellsD] at hu
  rcases hu with rfl | rfl <;> rfl
theorem pair_row (w : World) (q s : Int) : Reads (w.alloc (.cells #[.int .u32 q, .int .u32 s] 98)) (w.alloc (.cells #[.int .u32 q, .int .u32 s] 98)).heap.size 2 (some ⟨w.heap.size, 0, none⟩) 1 (cellsD [(q, s)]) :=
  ⟨rfl, fun _ => ⟨_, rfl, by rw [World.size_alloc]; exact Nat.lt_succ_self _, fun j u hu => by rw [add_none, Nat.zero_add, (Blk.new w 98 #[.int .u32 q, .int .u32 s]).cell j]; simpa [cellsD] using hu⟩⟩
theorem own_later2 {b n : Nat} {w w' : World} {v : Value} {xs : List Value} (h : w.ownsRow b 98 2 v n xs) (hb : Below w.heap.size w w') : w'.ownsRow b 98 2 v n xs := own_kept h (Kept.of_new hb (fun _ => False)) (fun _ _ h => h)
def fgt (D : List (Int × Int)) (r : Int) : List (Int × Int) := D.filter fun p => !(p.1 == r)
theorem fgt_step {D : List (Int × Int)} {r : Int} {j : Nat} {p : Int × Int} (h : D[j]? = some p) : fgt (D.take (j + 1)) r = fgt (D.take j) r ++ (if p.1 == r then [] else [p]) := by
  unfold fgt
  rw [List.take_add_one, h, List.filter_append]
  cases hq : (p.1 == r) <;> simp [hq]
def FgRel (w : World) (D : List (Int × Int)) (r : Int) (n : Nat) (i v : Value) (wr : World) : Prop :=
  ∃ j : Nat, i = .int .i64 j ∧ j ≤ n ∧ wr.ownsRow w.heap.size 98 2 v (fgt (D.take j) r).length (cellsD (fgt (D.take j) r)) ∧ Below w.heap.size w wr
theorem fgt_le (D : List (Int × Int)) (r : Int) (j : Nat) : (fgt (D.take j) r).length ≤ j := by
  unfold fgt
  refine Nat.le_trans (List.length_filter_le _ _) ?_
  rw [List.length_take]
  exact Nat.min_le_left _ _
set_option maxHeartbeats 2000000 in
theorem refForget_any (w : World) (base g : Nat) (D : List (Int × Int)) (r : Int) (hn2 : D.length ≤ 2000) (h : DL w base g D) : Calls Try.prog 26 #[.pointer (some ⟨g, 0, none⟩), .int .u32 r] w fun e w' =>
    e = .returned (.tuple #[]) ∧ DL w' w.heap.size g (fgt D r) ∧ Kept (fun i => i = g) w w' := by
  obtain ⟨v, hb, ho⟩ := h.row
  obtain ⟨A, c, rfl, hc, hm, hR⟩ := row_shape ho
  have HBk := Lib.hid hb
  have HR := Lib.hid hR
  have hBk : Hid (Blk w g 54 #[.slice A D.length c]) := hb
  generalize hn : D.length = n at hBk HR hc hm hn2
  clear hb ho h hR HBk
  have h0 : w.cell? ⟨g, 0, none⟩ = some (.slice A n c) := hBk.out.cell 0
  go_enter Try.func26, Try.ntmps26
  go_wp2
  clear h0
  go_loopw [5, 4] (FgRel w D r n) (fun i _ _ => n - (intOf i).toNat)
  case atStart => exact ⟨0, rfl, by omega, World.ownsRow_nil _ _ _ _, Below.refl _ _⟩
  case round =>
    obtain ⟨j, rfl, hj, ho, hb⟩ := hrel
    have HO := Lib.hid ho
    have HB := Lib.hid hb
    have h0 : wr.cell? ⟨g, 0, none⟩ = some (.slice A n c) := (hBk.out.later hb).cell 0
    have hle := fgt_le D r j
    clear ho hb
    by_cases hlt : j < n
    · obtain ⟨ad, p, rfl, hp, c0, c1⟩ := pair_at (HR.out.later HB.out) hlt hn
      obtain ⟨q, s⟩ := p
      have hst := Lib.hid (fgt_step (r := r) hp.out)
      simp only at c0 c1
      cases hq : (q == r)
      · have hqn : (q != r) = true := by rw [bne, hq]; rfl
        have HS : Hid (fgt (D.take (j + 1)) r = fgt (D.take j) r ++ [(q, s)]) := by
          have := hst.out
          simp only [hq, Bool.false_eq_true, if_false] at this
          exact this
        have hb1 : Hid (Below wr.heap.size wr (wr.alloc (.cells #[.int .u32 q, .int .u32 s] 98))) := (Below.refl _ _).alloc (Nat.le_refl _) _
        have HO1 := Lib.hid (own_later2 HO.out hb1.out)
        have HR1 := Lib.hid (pair_row wr q s)
        have HB1 := Lib.hid (below_then HB.out hb1.out)
        clear hst
        go_wp2_with (at_builtin; refine wpList_app el_one rfl (.tmp 25) (.tmp 33) rfl HO1.out rfl HR1.out rfl (pair_one q s) (by simp only [maxLen]; omega) (by omega) HB1.out.size ?_; intro v5 w5 ho5 hb5 _ _; have HO5 := Lib.hid ho5; have HB5 : Hid (Below w.heap.size w w5) := HB1.out.trans hb5; clear ho5 hb5)
        go_roundw
        case rel =>
          refine ⟨j + 1, by simp, by omega, ?_, HB5.out⟩
          rw [HS.out, cellsD_app, List.length_append]
          exact HO5.out
        case measure => simp [intOf]; omega
      · have hqn : (q != r) = false := by rw [bne, hq]; rfl
        have HS : Hid (fgt (D.take (j + 1)) r = fgt (D.take j) r) := by
          have := hst.out
          simp only [hq, if_true, List.append_nil] at this
          exact this
        clear hst
        go_wp2
        go_roundw
        case rel =>
          refine ⟨j + 1, by simp, by omega, ?_, HB.out⟩
          rw [HS.out]
          exact HO.out
        case measure => simp [intOf]; omega
    · obtain rfl : j = n := by omega
      have hf0 : wr.frozen? ⟨g, 0, none⟩ = false := (hBk.out.later HB.out).frozen 0
      rw [List.take_of_length_le (by omega : D.length ≤ j)] at HO
      obtain ⟨A', c', rfl, _, _, _⟩ := row_shape HO.out
      go_wp2
      go_end0
      refine ⟨rfl, ⟨_, (hBk.out.later HB.out).set_ 0 _, ?_⟩, (Kept.of_new HB.out (fun i => i = g)).setCell (p := ⟨g, 0, none⟩) (fun _ => rfl) _⟩
      exact own_setCell HO.out (hBk.out.later HB.out) (by decide) _
theorem DL.mono {w : World} {b b' g : Nat} {D : List (Int × Int)} (h : DL w b g D) (hb : b' ≤ b) : DL w b' g D := by
  obtain ⟨v, h1, h2⟩ := h.row
  exact ⟨v, h1, own_mono h2 hb⟩
theorem DL.later {w w' : World} {b g : Nat} {D : List (Int × Int)} (h : DL w b g D) (hb : Below w.heap.size w w') : DL w' b g D := by
  obtain ⟨v, h1, h2⟩ := h.row
  exact ⟨v, h1.later hb, own_later2 h2 hb⟩
theorem says_fgt {D : List (Int × Int)} {f : Int → Option Int} (h : Says D f) (r : Int) : Says (fgt D r) (upd f r none) := by
  intro q t
  unfold fgt upd
  rw [List.mem_filter]
  by_cases e : q = r
  · subst e
    simp
  · rw [if_neg e, ← h q t]
    simp [e]
theorem upd_upd (f : Int → Option Int) (r : Int) (a b : Option Int) : upd (upd f r a) r b = upd f r b := by
  funext q
  unfold upd
  split <;> rfl
theorem fgt_not {D : List (Int × Int)} {r : Int} : ∀ p ∈ fgt D r, p.1 ≠ r := by
  intro p hp
  unfold fgt at hp
  rw [List.mem_filter] at hp
  simpa using hp.2
theorem fgt_len (D : List (Int × Int)) (r : Int) : (fgt D r).length ≤ D.length := List.length_filter_le _ _
theorem kept_then {S : Nat → Prop} {w w1 w2 : World} (h : Kept S w w1) (hb : Below w.heap.size w1 w2) : Kept S w w2 :=
  h.trans (T := fun i => w.heap.size ≤ i) ⟨hb.os, hb.tape, hb.output, hb.size, fun i _ hn => hb.block i (by omega)⟩ (fun i hi h2 => absurd h2 (by omega))
def TkAt (w w' : World) (base g : Nat) (D : List (Int × Int)) (f : Int → Option Int) : Prop := (∃ D', DL w' base g D' ∧ Says D' f ∧ D'.length ≤ D.length + 1) ∧ Kept (fun i => i = g) w w'
set_option maxHeartbeats 2000000 in
theorem refTake_any (w : World) (base g : Nat) (D : List (Int × Int)) (f : Int → Option Int) (r s : Int) (hbase : base ≤ w.heap.size) (hn2 : D.length ≤ 2000) (h : DL w base g D) (hS : Says D f) :
    Calls Try.prog 27 #[.pointer (some ⟨g, 0, none⟩), .int .u32 r, .int .u32 s] w fun e w' => e = .returned (.int .i64 (takeE (f r) s)) ∧ TkAt w w' base g D (takeF f r s) := by
  have HG := Lib.hid (refGet_any w base g D r h)
  rw [says_get hS r] at HG
  have HF := Lib.hid (refForget_any w base g D r hn2 h)
  have HD := Lib.hid h
  have HS := Lib.hid hS
  clear h hS
  have hfin : takeE (f r) s ≠ 27 → takeF f r s = upd (upd f r none) r (some s) := fun hne => by
    rw [upd_upd]; unfold takeF; rw [if_neg hne]
  have hrep : takeE (f r) s = 27 → takeF f r s = f := fun he => by unfold takeF; rw [if_pos he]
  have HFIN := Lib.hid hfin
  have HREP := Lib.hid hrep
  clear hfin hrep
  have hglt : g < w.heap.size := by obtain ⟨v, hb, _⟩ := HD.out.row; exact hb.lt
  by_cases h27 : takeE (f r) s = 27
  · have HP : Hid (takeF f r s = f) := HREP.out h27
    obtain ⟨l, hfr, hsl⟩ : ∃ l, f r = some l ∧ s < l := by
      unfold takeE at h27
      cases hfr : f r with
      | none => rw [hfr] at h27; simp at h27
      | some l => rw [hfr] at h27; simp at h27; exact ⟨l, rfl, h27⟩
    rw [h27]
    rw [hfr] at HG
    simp only [getV] at HG
    clear HFIN HREP h27
    go_enter Try.func27, Try.ntmps27
    go_wp2_with (go_at_call 28; refine HG.out.mono ?_; rintro e w' ⟨rfl, rfl⟩; clear HG)
    go_ret
    exact ⟨rfl, ⟨D, HD.out, by rw [HP.out]; exact HS.out, by omega⟩, Kept.refl _ _⟩
  · have HP := Lib.hid (HFIN.out h27)
    have h0 : takeE (f r) s = 0 := by
      unfold takeE at h27 ⊢
      split
      · split
        · rename_i l hh hs2; exact absurd (by rw [hh]; simp [hs2]) h27
        · rfl
      · rfl
    rw [h0]
    have step : ∀ (W : World), True := fun _ => trivial
    clear step
    cases hfr : f r with
    | none =>
      rw [hfr] at HG
      simp only [getV] at HG
      clear HFIN HREP h27 h0 hfr
      go_enter Try.func27, Try.ntmps27
      go_wp2_with (first
        | (go_at_call 28; refine HG.out.mono ?_; rintro e w' ⟨rfl, rfl⟩; clear HG)
        | (go_at_call 26; refine HF.out.mono ?_; rintro e w1 ⟨rfl, hD1, hK1⟩; obtain ⟨v1, hB1, hO1⟩ := hD1.row; obtain ⟨A1, c1, rfl, _, _, _⟩ := row_shape hO1; have q0 : w1.cell? ⟨g, 0, none⟩ = some (.slice A1 (fgt D r).length c1) := hB1.cell 0; have HB1 := Lib.hid (Blk.alloc hB1 (.cells #[.int .u32 r, .int .u32 s] 98)); have HO1 := Lib.hid (own_later2 hO1 ((Below.refl _ _).alloc (Nat.le_refl _) (.cells #[.int .u32 r, .int .u32 s] 98))); have HR1 := Lib.hid (pair_row w1 r s); have HKa := Lib.hid (Kept.alloc hK1 (.cells #[.int .u32 r, .int .u32 s] 98)); clear hD1 hK1 HF hB1 hO1)
        | (at_builtin; refine wpList_app el_one rfl (.tmp 28) (.tmp 32) rfl HO1.out rfl HR1.out rfl (pair_one r s) (by have := fgt_len D r; simp only [maxLen]; omega) (by have := fgt_len D r; omega) HKa.out.size ?_; intro v5 w5 ho5 hb5 _ _; obtain ⟨A5, c5, rfl, _, _, _⟩ := row_shape ho5; have HO5 := Lib.hid ho5; have HB5 := Lib.hid (Blk.below HB1.out hb5 hglt); have HK5 := Lib.hid (kept_then HKa.out hb5); have p0 : w5.cell? ⟨g, 0, none⟩ = _ := Blk.cell HB5.out 0; have f0 := Blk.frozen HB5.out 0; simp only [List.getElem?_toArray, List.getElem?_cons_zero] at p0; clear ho5 hb5 HO1 HR1 HB1 HKa q0))
      go_ret
      refine ⟨rfl, ⟨fgt D r ++ [(r, s)], ⟨_, HB5.out.set_ 0 _, ?_⟩, by rw [HP.out]; exact says_new (says_fgt HS.out r) fgt_not, by have := fgt_len D r; simp; omega⟩, HK5.out.setCell (p := ⟨g, 0, none⟩) (fun _ => rfl) _⟩
      have h5 := HO5.out
      rw [cellsD_app, List.length_append]
      exact own_mono (own_setCell h5 HB5.out (by decide) _) hbase
    | some l =>
      have hsl : ¬ s < l := by
        intro hs2
        apply h27
        unfold takeE
        rw [hfr]
        simp [hs2]
      rw [hfr] at HG
      simp only [getV] at HG
      clear HFIN HREP h27 h0 hfr
      go_enter Try.func27, Try.ntmps27
      go_wp2_with (first
        | (go_at_call 28; refine HG.out.mono ?_; rintro e w' ⟨rfl, rfl⟩; clear HG)
        | (go_at_call 26; refine HF.out.mono ?_; rintro e w1 ⟨rfl, hD1, hK1⟩; obtain ⟨v1, hB1, hO1⟩ := hD1.row; obtain ⟨A1, c1, rfl, _, _, _⟩ := row_shape hO1; have q0 : w1.cell? ⟨g, 0, none⟩ = some (.slice A1 (fgt D r).length c1) := hB1.cell 0; have HB1 := Lib.hid (Blk.alloc hB1 (.cells #[.int .u32 r, .int .u32 s] 98)); have HO1 := Lib.hid (own_later2 hO1 ((Below.refl _ _).alloc (Nat.le_refl _) (.cells #[.int .u32 r, .int .u32 s] 98))); have HR1 := Lib.hid (pair_row w1 r s); have HKa := Lib.hid (Kept.alloc hK1 (.cells #[.int .u32 r, .int .u32 s] 98)); clear hD1 hK1 HF hB1 hO1)
        | (at_builtin; refine wpList_app el_one rfl (.tmp 28) (.tmp 32) rfl HO1.out rfl HR1.out rfl (pair_one r s) (by have := fgt_len D r; simp only [maxLen]; omega) (by have := fgt_len D r; omega) HKa.out.size ?_; intro v5 w5 ho5 hb5 _ _; obtain ⟨A5, c5, rfl, _, _, _⟩ := row_shape ho5; have HO5 := Lib.hid ho5; have HB5 := Lib.hid (Blk.below HB1.out hb5 hglt); have HK5 := Lib.hid (kept_then HKa.out hb5); have p0 : w5.cell? ⟨g, 0, none⟩ = _ := Blk.cell HB5.out 0; have f0 := Blk.frozen HB5.out 0; simp only [List.getElem?_toArray, List.getElem?_cons_zero] at p0; clear ho5 hb5 HO1 HR1 HB1 HKa q0))
      go_ret
      refine ⟨rfl, ⟨fgt D r ++ [(r, s)], ⟨_, HB5.out.set_ 0 _, ?_⟩, by rw [HP.out]; exact says_new (says_fgt HS.out r) fgt_not, by have := fgt_len D r; simp; omega⟩, HK5.out.setCell (p := ⟨g, 0, none⟩) (fun _ => rfl) _⟩
      have h5 := HO5.out
      rw [cellsD_app, List.length_append]
      exact own_mono (own_setCell h5 HB5.out (by decide) _) hbase
end Go.Proofs.Ytkgdeneonobibaa
