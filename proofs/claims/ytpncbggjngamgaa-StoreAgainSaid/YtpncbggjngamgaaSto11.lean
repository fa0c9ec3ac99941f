/-
  lodestarlaw11's heavy and filled. Printed by gen_sto11.py.
-/
import Derived.Test.YtpncbggjngamgaaStE
namespace Go.Proofs.Ytpncbggjngamgaa
set_option linter.unusedVariables false
open Go.RowKit

theorem below_kept {w w1 w2 : World} {F : Nat → Prop} (h : Below w.heap.size w w1) (k : Kept F w1 w2) (hF : ∀ i, F i → w.heap.size ≤ i) : Below w.heap.size w w2 :=
  h.trans (k.below hF h.size)
/-- The bytes of the first i bodies. -/
def osum (L : List OpS) (i : Nat) : Nat := ((L.take i).map fun o => o.s.n).sum
theorem osum_succ {L : List OpS} {i : Nat} {o : OpS} (h : L[i]? = some o) : osum L (i + 1) = osum L i + o.s.n := by
  unfold osum
  rw [List.take_add_one, h]
  simp
theorem osum_ge (L : List OpS) : ∀ o ∈ L, o.s.n ≤ osum L L.length := by
  unfold osum
  rw [List.take_length]
  induction L with
  | nil => intro o h; cases h
  | cons a r ih =>
    intro o h
    rw [List.map_cons, List.sum_cons]
    rcases List.mem_cons.1 h with rfl | h
    · omega
    · have := ih o h; omega
def HvPost (w w' : World) (L : List OpS) (n : Nat) (e : Ending) : Prop := ∃ b, e = .returned (.bool b) ∧ (∃ k, w' = w.drewN k) ∧ (b = false → n ≤ 120 ∧ ∀ o ∈ L, o.s.n ≤ 16384)
set_option maxRecDepth 100000 in
set_option maxHeartbeats 4000000 in
theorem opHeavy_any (A : Option Addr) (n c : Nat) (L : List OpS) (w : World) (hL : Opl w A n L) (hr : ∀ o ∈ L, o.s.n ≤ reachBytes) (hc : n ≤ c) (hcm : c ≤ 9223372036854775807) :
    Calls Try.prog 7 #[.slice A n c] w fun e w' => HvPost w w' L n e := by
  have HL := Lib.hid hL
  have HR := Lib.hid hr
  clear hL hr
  go_enter Try.func7, Try.ntmps7
  go_wp2
  go_loopw [3, 4] (fun sv iv wr => ∃ i k : Nat, sv = .int .i64 k ∧ iv = .int .i64 i ∧ i ≤ n ∧ Hid (k = n + osum L i) ∧ k ≤ 9223372036854775807 ∧ ∃ d, wr = w.drewN d) (fun _ iv _ => n - (intOf iv).toNat)
  case atStart => exact ⟨0, n, rfl, rfl, by omega, rfl, by omega, 0, rfl⟩
  case round =>
    obtain ⟨i, k, rfl, rfl, hi, hk, hkb, d, rfl⟩ := hrel
    by_cases hlt : i < n
    · by_cases hsm : k ≤ 16384
      · obtain ⟨ad, ⟨o0, on, ⟨oh, oA, om, oc, oB⟩⟩, rfl, _, hs, hok, a0, a1, a2, a3, a4, a5, a6, a7, a8, a9, a10⟩ := HL.out.at_ hlt
        have hm := HR.out _ (List.mem_of_getElem? hs)
        have hm' : om ≤ 140737488355328 := by unfold reachBytes at hm; simp only at hm; omega
        have HK := Lib.hid (osum_succ hs)
        clear hm hs hok a0 a1 a2 a3 a4 a5 a6 a7 a8 a9
        go_wp2
        go_roundw
        case rel => exact ⟨i + 1, k + om, by go_num, by go_num, by omega, by show _ = _; rw [HK.out, hk.out]; simp only; omega, by omega, _, rfl⟩
        case measure => simp [intOf]; omega
      · go_wp2
        go_ret
        exact ⟨_, rfl, ⟨_, rfl⟩, fun h => by simp at h⟩
    · obtain rfl : i = n := by omega
      by_cases hsm : k ≤ 16384
      · by_cases h120 : i ≤ 120
        · go_wp2
          go_ret
          refine ⟨_, rfl, ⟨_, rfl⟩, fun h => ⟨h120, fun o ho => ?_⟩⟩
          have h1 := osum_ge L o ho
          rw [HL.out.len] at h1
          have := hk.out
          omega
        · go_wp2
          go_ret
          exact ⟨_, rfl, ⟨_, rfl⟩, fun h => by simp at h; omega⟩
      · go_wp2
        go_ret
        exact ⟨_, rfl, ⟨_, rfl⟩, fun h => by simp at h⟩

/-- What a store holds, its rows of bytes apart. -/
def contF (f : Ky3 → Option OneE) : Ky3 → Option (Hd × List Int × Int) := fun k => (f k).map fun x => (x.s.h, x.s.B, x.at_)
def upC (F : Ky3 → Option (Hd × List Int × Int)) (o : OpS) : Ky3 → Option (Hd × List Int × Int) := fun k => if k = o.s.key then some (o.s.h, o.s.B, max o.now 0) else F k
def fillC (L : List OpS) : Ky3 → Option (Hd × List Int × Int) := L.foldl upC fun _ => none
theorem fillC_snoc (l : List OpS) (o : OpS) : fillC (l ++ [o]) = upC (fillC l) o := by unfold fillC; rw [List.foldl_append]; rfl
theorem contF_upd (f : Ky3 → Option OneE) (o : OpS) (x : SE) (t : Int) (h1 : x.h = o.s.h) (h2 : x.B = o.s.B) (h3 : t = max o.now 0) : contF (updK f o.s.key ⟨x, t⟩) = upC (contF f) o := by
  funext k
  unfold contF updK upC
  by_cases h : k = o.s.key
  · rw [if_pos h, if_pos h, Option.map_some, h1, h2, h3]
  · rw [if_neg h, if_neg h]
theorem fillC_some : ∀ (n : Nat) (L : List OpS), L.length = n → ∀ k c, fillC L k = some c → ∃ o ∈ L, o.s.key = k ∧ c = (o.s.h, o.s.B, max o.now 0) := by
  intro n
  induction n with
  | zero =>
    intro L hl k c h
    rw [List.length_eq_zero_iff] at hl
    subst hl
    cases h
  | succ n ih =>
    intro L hl k c h
    rcases List.eq_nil_or_concat L with rfl | ⟨l, o, rfl⟩
    · simp at hl
    · rw [List.concat_eq_append] at *
      rw [fillC_snoc] at h
      unfold upC at h
      split at h
      · rename_i hk
        injection h with h
        exact ⟨o, by simp, hk.symm, h.symm⟩
      · obtain ⟨o', ho', h1⟩ := ih l (by simp at hl; omega) k c h
        exact ⟨o', by simp [ho'], h1⟩
structure FlRel (w : World) (L : List OpS) (g bm : Nat) (i : Value) (wr : World) : Prop where
  ex : ∃ (j N : Nat) (f : Ky3 → Option OneE), i = .int .i64 j ∧ j ≤ L.length ∧ Hid (StF wr g bm 4096 f N) ∧ Hid (N ≤ j) ∧ Hid (contF f = fillC (L.take j))
  below : Hid (Below w.heap.size w wr)
def Filled (w w' : World) (L : List OpS) (e : Ending) : Prop := ∃ g bm f N, e = .returned (.pointer (some ⟨g, 0, none⟩)) ∧ StF w' g bm 4096 f N ∧ N ≤ L.length ∧ contF f = fillC L ∧ w.heap.size ≤ g ∧ w.heap.size ≤ bm ∧ Below w.heap.size w w'
set_option maxRecDepth 100000 in
set_option maxHeartbeats 8000000 in
theorem filled_any (A : Option Addr) (n c : Nat) (L : List OpS) (w : World) (hL : Opl w A n L) (hn : n ≤ 120) (hs : ∀ o ∈ L, o.s.n ≤ 16384) :
    Calls Try.prog 9 #[.slice A n c] w fun e w' => Filled w w' L e := by
  have HL := Lib.hid hL
  have HLen := Lib.hid hL.len
  have HSm := Lib.hid hs
  clear hL hs
  have HNew := Lib.hid (stnew_any 4096 w (by omega) (by omega))
  go_enter Try.func9, Try.ntmps9
  go_wp2_with (go_at_call 22; refine HNew.out.mono ?_; rintro e w1 ⟨g, bm, rfl, q1, hg, hbm, hb1⟩; have HQ1 := Lib.hid q1; have HG := Lib.hid hg; have HBM := Lib.hid hbm; have HB1 := Lib.hid hb1; clear q1 hg hbm hb1)
  clear HNew
  go_loopw [4] (FlRel w L g bm) (fun t _ => n - (intOf t).toNat)
  case atStart => exact ⟨⟨0, 0, fun _ => none, rfl, Nat.zero_le _, HQ1, Lib.hid (Nat.le_refl _), Lib.hid rfl⟩, HB1⟩
  case round =>
    obtain ⟨⟨j, N, f, rfl, hjn, hQ, hN, hC⟩, hbr⟩ := hrel
    rw [HLen.out] at hjn
    generalize wr = wj at *
    by_cases hlt : j < n
    · have hltI : (j : Int) < n := by omega
      obtain ⟨ad, o, hA, hadl, hso, hok, hat⟩ := HL.out.at_ hlt
      subst hA
      have HO := Lib.hid (And.intro hso hok)
      have HAt := Lib.hid hat
      have hsn := HSm.out o (List.mem_of_getElem? hso)
      clear hso hok hat
      obtain ⟨t, ht⟩ : ∃ t, (if (0 : Int) > o.now then 0 else o.now) = t := ⟨_, rfl⟩
      have ht2 : t = max o.now 0 := by rw [← ht]; split <;> omega
      have hrg : 0 ≤ t ∧ t ≤ 9223372036854775807 := by have := HO.out.2.now; omega
      have HT := Lib.hid ht2
      clear ht2
      have hrd : o.s.rd wj := (HO.out.2.s.later hbr.out).rd (by omega)
      go_wp2_with fail
      refine wp_region_s (fun W : World => OpAt W (ad.add (j * 11)) o) [(0, true), (1, true), (2, true), (3, true), (4, true), (7, true), (8, true), (9, true), (10, true), (5, true), (6, true), (11, true), (12, false), (13, false)] (by kernel_rfl) (fun _ d _ _ _ h => by cases d <;> exact h) ?_
      simp only [List.map_cons, List.map_nil, nthOp_zero, nthOp_succ]
      have HS : Hid ((fun W : World => OpAt W (ad.add (j * 11)) o) wj.drew) := Lib.hid (HAt.out.later hbr.out.drew)
      have HB3 := Lib.hid hbr.out.drew
      have HQ3 := Lib.hid (hQ.out.later (Below.refl _ _).drew)
      have HRD := Lib.hid (hrd.later (Below.refl _ _).drew)
      clear hrd
      generalize wj.drew = w3 at *
      refine wpS_take HS (by kernel_rfl) (by intro W hW; clear hW; go_simp; try with_reducible rfl) ?_
      refine wpS_take HS (by kernel_rfl) (by intro W hW; clear hW; go_simp; try with_reducible rfl) ?_
      refine wpS_take HS (by kernel_rfl) (by intro W hW; clear hW; go_simp; try with_reducible rfl) ?_
      refine wpS_take HS (by kernel_rfl) (by intro W hW; clear hW; go_simp; try with_reducible rfl) ?_
      refine wpS_take HS (by kernel_rfl) (by intro W hW; clear hW; go_simp; try with_reducible rfl) ?_
      refine wpS_take HS (by kernel_rfl) (by intro W hW; clear hW; go_simp; try with_reducible rfl) ?_
      refine wpS_take HS (by kernel_rfl) (by intro W hW; clear hW; go_simp; try with_reducible rfl) ?_
      refine wpS_take HS (by kernel_rfl) (by intro W hW; clear hW; go_simp; try with_reducible rfl) ?_
      refine wpS_take HS (by kernel_rfl) (by intro W hW; clear hW; go_simp; try with_reducible rfl) ?_
      refine wpS_take HS (by kernel_rfl) (by intro W hW; obtain ⟨q0, q1, q2, q3, q4, q5, q6, q7, q8, q9, q10⟩ := hW; go_simp; try with_reducible rfl) ?_
      refine wpS_take (v := .int .i64 t) HS (by kernel_rfl) (by intro W hW; clear hW; go_simp) ?_
      refine wpS_take HS (by kernel_rfl) (by intro W hW; obtain ⟨q0, q1, q2, q3, q4, q5, q6, q7, q8, q9, q10⟩ := hW; go_simp; try with_reducible rfl) ?_
      refine wpS_do fun K hK => ?_
      go_wp2_with fail
      refine (copyState_any o.s w3 HRD.out).mono ?_
      rintro e w4 ⟨s', rfl, hcp, hb4⟩
      have HC := Lib.hid hcp
      have HB4 := Lib.hid (below_then HB3.out hb4)
      have HQ4 := Lib.hid (HQ3.out.later hb4)
      replace HS : Hid ((fun W : World => OpAt W (ad.add (j * 11)) o) w4) := Lib.hid (HS.out.later hb4)
      clear hcp hb4 HB3 HQ3 HRD
      go_wp2_with fail
      refine hK.out _ _ HS.out ?_
      clear hK K
      refine wpS_do fun K hK => ?_
      go_wp2_with fail
      refine (stput_any w4 g bm 4096 f N HQ4.out s' HC.out.ok.rd t hrg (.inr (by have := hN.out; omega))).mono ?_
      rintro e w5 ⟨x', rfl, hxh, hxB, hxn, hq5, hk5⟩
      have HX := Lib.hid (And.intro hxh hxB)
      have HQ5 := Lib.hid hq5
      have HB5 := Lib.hid (below_kept HB4.out hk5 (fun i hi => by rw [hi]; exact HBM.out))
      clear hxh hxB hxn hq5 hk5
      go_wp2_with fail
      refine hK.out _ _ (HAt.out.later HB5.out) ?_
      clear hK K HS
      refine wpS_nil ?_
      go_wp2_with fail
      go_roundw
      case rel =>
        refine ⟨⟨j + 1, _, _, by go_num, by rw [HLen.out]; omega, HQ5, Lib.hid ?_, Lib.hid ?_⟩, HB5⟩
        · have := hN.out
          split <;> omega
        · rw [List.take_add_one, HO.out.1, Option.toList_some, fillC_snoc, ← hC.out]
          have hk : s'.key = o.s.key := by unfold SE.key; rw [HC.out.h]
          rw [hk]
          exact contF_upd f o x' t (by rw [HX.out.1, HC.out.h]) (by rw [HX.out.2, HC.out.B]) HT.out
      case measure => simp [intOf]; omega
    · obtain rfl : j = n := by omega
      go_wp2_with fail
      go_ret
      refine ⟨g, bm, f, N, rfl, hQ.out, ?_, ?_, HG.out, HBM.out, hbr.out⟩
      · rw [HLen.out]; exact hN.out
      · rw [hC.out, List.take_of_length_le (by rw [HLen.out]; exact Nat.le_refl _)]
end Go.Proofs.Ytpncbggjngamgaa
