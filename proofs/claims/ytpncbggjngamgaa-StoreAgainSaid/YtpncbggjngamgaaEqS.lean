/-
  Rows of states that can be read; EqStates. Printed by gen_eqs.py.
-/
import Derived.Test.YtpncbggjngamgaaStE
import Derived.Test.YtpncbggjngamgaaSto7
namespace Go.Proofs.Ytpncbggjngamgaa
set_option linter.unusedVariables false
open Go.RowKit

theorem stL_len (s : SE) : (stL s).length = 9 := rfl
structure Sts (w : World) (A : Option Addr) (n c : Nat) (ss : List SE) : Prop where
  row : Reads w w.heap.size 9 A n (ss.flatMap stL)
  len : ss.length = n
  cap : n ≤ c ∧ c ≤ 9223372036854775807
  ok : ∀ s ∈ ss, s.rd w
theorem Sts.later {w w' : World} {A : Option Addr} {n c : Nat} {ss : List SE} (h : Sts w A n c ss) (hb : Below w.heap.size w w') : Sts w' A n c ss := ⟨h.row.later hb, h.len, h.cap, fun s hs => (h.ok s hs).later hb⟩
theorem reads_ne_map {w : World} {A : Option Addr} {n : Nat} {ss : List SE} {bm m : Nat} {F : Ky3 → Option Value} (h : Reads w w.heap.size 9 A n (ss.flatMap stL)) (hl : ss.length = n) (hm : MapF keyV w bm F m) : 0 < n → ∀ ad, A = some ad → ad.block ≠ bm := by
  intro h0 ad hA e
  obtain ⟨ad', s, hA', hb, hs, hc, _⟩ := rowG_at stL_len h hl h0
  rw [hA] at hA'
  injection hA' with hA'
  subst hA'
  have hc0 := hc _ rfl
  obtain ⟨es, cl, L, hmm⟩ := hm
  have hh := hmm.heap
  rw [Nat.zero_mul] at hc0
  unfold World.cell? at hc0
  have hblk : (ad.add 0).block = ad.block := block_of_add _ _
  rw [hblk, e, hh] at hc0
  cases hc0
theorem Sts.kept {w w' : World} {A : Option Addr} {n c : Nat} {ss : List SE} {bm m : Nat} {F : Ky3 → Option Value} (h : Sts w A n c ss) (hm : MapF keyV w bm F m) (k : Kept (fun i => i = bm) w w') : Sts w' A n c ss :=
  ⟨h.row.keptUp k (fun h0 ad e hi => reads_ne_map h.row h.len hm h0 ad e hi), h.len, h.cap, fun s hs => (h.ok s hs).kept2 k (fun h0 ad e hi => rd_ne_map (h.ok s hs) hm h0 ad e hi)⟩
theorem Sts.at_ {w : World} {A : Option Addr} {n c i : Nat} {ss : List SE} (h : Sts w A n c ss) (hi : i < n) : ∃ ad s, A = some ad ∧ ss[i]? = some s ∧ s.rd w ∧ StAt w (ad.add (i * 9)) s := by
  obtain ⟨ad, s, e, hb, hs, h0, hj⟩ := rowG_at stL_len h.row h.len hi
  exact ⟨ad, s, e, hs, h.ok s (List.mem_of_getElem? hs), h0 _ rfl, hj 1 _ (by decide) rfl, hj 2 _ (by decide) rfl, hj 3 _ (by decide) rfl, hj 4 _ (by decide) rfl, hj 5 _ (by decide) rfl, hj 6 _ (by decide) rfl, hj 7 _ (by decide) rfl, hj 8 _ (by decide) rfl⟩
theorem eqS_of {s t : SE} (h : s.h = t.h) (hb : s.B = t.B) : eqS s t = true := by
  unfold eqS
  rw [(eqHd_iff s.h t.h).2 h, decide_eq_true hb]
  rfl
theorem eqState_at (s t : SE) (w : World) (hs : s.rd w) (ht : t.rd w) (h : s.h = t.h) (hb : s.B = t.B) : Calls Try.prog 20 #[.agg #[.int .u16 s.h.age, .int .u8 s.h.opts, .int .u8 s.h.typ, .int .u32 s.h.id, .int .u32 s.h.adv, .int .i32 s.h.seq, .int .u16 s.h.sum, .int .u16 s.h.len, .slice s.A s.n s.c], .agg #[.int .u16 t.h.age, .int .u8 t.h.opts, .int .u8 t.h.typ, .int .u32 t.h.id, .int .u32 t.h.adv, .int .i32 t.h.seq, .int .u16 t.h.sum, .int .u16 t.h.len, .slice t.A t.n t.c]] w fun e w' => e = .returned (.bool true) ∧ Below w.heap.size w w' := by
  have h1 := eqState_any s t w hs ht
  rw [eqS_of h hb] at h1
  exact h1
set_option maxRecDepth 100000 in
set_option maxHeartbeats 4000000 in
theorem eqStates_any (A B : Option Addr) (n c m d : Nat) (ss ts : List SE) (w : World) (hx : Sts w A n c ss) (hy : Sts w B m d ts) (hh : ss.map SE.h = ts.map SE.h) (hB : ss.map SE.B = ts.map SE.B) :
    Calls Try.prog 18 #[.slice A n c, .slice B m d] w fun e w' => e = .returned (.bool true) ∧ Below w.heap.size w w' := by
  have hnm : n = m := by rw [← hx.len, ← hy.len, ← List.length_map (f := SE.h), hh, List.length_map]
  subst hnm
  have HX := Lib.hid hx
  have HY := Lib.hid hy
  have HE : Hid (∀ (i : Nat) (s t : SE), ss[i]? = some s → ts[i]? = some t → s.h = t.h ∧ s.B = t.B) := Lib.hid fun i s t h1 h2 => by
    have e1 := congrArg (fun l => l[i]?) hh
    have e2 := congrArg (fun l => l[i]?) hB
    simp only [List.getElem?_map, h1, h2, Option.map_some] at e1 e2
    injection e1 with e1
    injection e2 with e2
    exact ⟨e1, e2⟩
  have hc := hx.cap
  have hd := hy.cap
  clear hx hy hh hB
  go_enter Try.func18, Try.ntmps18
  go_wp2
  go_loopw [5] (fun iv wr => ∃ i : Nat, iv = .int .i64 i ∧ i ≤ n ∧ Hid (Below w.heap.size w wr)) (fun iv _ => n - (intOf iv).toNat)
  case atStart => exact ⟨0, rfl, Nat.zero_le _, Lib.hid (Below.refl _ _)⟩
  case round =>
    obtain ⟨i, rfl, hi, hb⟩ := hrel
    by_cases hlt : i < n
    · have hltI : (i : Int) < n := by omega
      obtain ⟨ad, x, hA, hxs, hxr, hxa⟩ := (HX.out.later hb.out).at_ hlt
      obtain ⟨bd, y, hB, hys, hyr, hya⟩ := (HY.out.later hb.out).at_ hlt
      subst hA hB
      have HK := Lib.hid (HE.out i x y hxs hys)
      have hbd : Below wr.heap.size wr wr.drew := (Below.refl _ _).drew
      have HS : Hid ((fun W : World => StAt W (ad.add (i * 9)) x ∧ StAt W (bd.add (i * 9)) y) wr.drew) := Lib.hid ⟨hxa.later hbd, hya.later hbd⟩
      have HR := Lib.hid (And.intro (hxr.later hbd) (hyr.later hbd))
      have HB := Lib.hid hb.out.drew
      clear hxs hys hxa hya hxr hyr hbd
      go_wp2_with fail
      refine wp_region_s (fun W : World => StAt W (ad.add (i * 9)) x ∧ StAt W (bd.add (i * 9)) y) [(0, true), (1, true), (2, true), (4, true), (5, true), (6, true), (3, true), (7, true), (8, false), (9, true)] (by kernel_rfl) (fun _ d _ _ _ h => by cases d <;> exact h) ?_
      simp only [List.map_cons, List.map_nil, nthOp_zero, nthOp_succ]
      generalize wr.drew = w3 at *
      refine wpS_take HS (by kernel_rfl) (by intro W hW; clear hW; go_simp; try with_reducible rfl) ?_
      refine wpS_take HS (by kernel_rfl) (by intro W hW; clear hW; go_simp; try with_reducible rfl) ?_
      refine wpS_take HS (by kernel_rfl) (by intro W hW; clear hW; go_simp; try with_reducible rfl) ?_
      refine wpS_take HS (by kernel_rfl) (by intro W hW; clear hW; go_simp; try with_reducible rfl) ?_
      refine wpS_take HS (by kernel_rfl) (by intro W hW; clear hW; go_simp; try with_reducible rfl) ?_
      refine wpS_take HS (by kernel_rfl) (by intro W hW; clear hW; go_simp; try with_reducible rfl) ?_
      go_simp
      refine wpS_take HS (by kernel_rfl) (by intro W hW; obtain ⟨q0, q1, q2, q3, q4, q5, q6, q7, q8⟩ := hW.1; go_simp; try with_reducible rfl) ?_
      refine wpS_take HS (by kernel_rfl) (by intro W hW; obtain ⟨q0, q1, q2, q3, q4, q5, q6, q7, q8⟩ := hW.2; go_simp; try with_reducible rfl) ?_
      go_simp
      refine wpS_do fun K hK => ?_
      go_wp2_with fail
      refine (eqState_at x y w3 HR.out.1 HR.out.2 HK.out.1 HK.out.2).mono ?_
      rintro e w4 ⟨rfl, hb4⟩
      have HS4 : Hid (StAt w4 (ad.add (i * 9)) x ∧ StAt w4 (bd.add (i * 9)) y) := Lib.hid ⟨HS.out.1.later hb4, HS.out.2.later hb4⟩
      have HB4 := Lib.hid (below_then HB.out hb4)
      clear hb4 HS HB
      go_wp2_with fail
      refine hK.out _ _ HS4.out ?_
      clear hK K
      refine wpS_take HS4 (by kernel_rfl) (by intro W hW; clear hW; go_simp; try with_reducible rfl) ?_
      refine wpS_nil ?_
      go_simp
      go_wp2_with fail
      go_roundw
      case rel => exact ⟨i + 1, by go_num, by omega, HB4⟩
      case measure => simp [intOf]; omega
    · obtain rfl : i = n := by omega
      go_wp2
      go_ret
      exact ⟨rfl, hb.out⟩
end Go.Proofs.Ytpncbggjngamgaa
