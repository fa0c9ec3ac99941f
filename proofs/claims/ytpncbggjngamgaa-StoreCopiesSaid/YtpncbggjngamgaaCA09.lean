/-
  The reference's store: Next. Printed by gen_rst8.py.
  The order in which states are put counts for nothing; what is put again as it is found stays as it was. No program in sight.
  A store told by a row: what the program's store and the reference's answer is the same. No program in sight.
  A row of states in the order of their keys, with one laid in, put in another's place or taken out. No program in sight.
  A struct stored over one item of a row that is our own.
  The reference's store: Put. Printed by gen_rst9.py.
-/
import Derived.Test.YtpncbggjngamgaaCA08
import Derived.Test.YtpncbggjngamgaaCA07
import Derived.Test.YtpncbggjngamgaaCA03
import Derived.Test.YtpncbggjngamgaaCA01
import Derived.Test.YtpncbggjngamgaaCA02
import Derived.Laws.CopyRow
import Derived.Laws.Tables
import Derived.Test.YtpncbggjngamgaaCA04
namespace Go.Proofs.Ytpncbggjngamgaa
set_option linter.unusedVariables false
open Go.RowKit

def nextL (xs : List OneE) (now : Int) : Option Int := (xs.map fun x => (x.s.key, x)).foldl (stepW now) none
theorem nextL_snoc (l : List OneE) (x : OneE) (now : Int) : nextL (l ++ [x]) now = stepW now (nextL l now) (x.s.key, x) := by unfold nextL; rw [List.map_append, List.foldl_append]; rfl
set_option maxRecDepth 100000 in
set_option maxHeartbeats 8000000 in
theorem next11 (base : Nat) (w : World) (g : Nat) (v : Value) (most : Int) (xs : List OneE) (q : RfS base w g v most xs) (now : Int) (hn : 0 ≤ now ∧ now ≤ 9223372036854775807) (hN : xs.length ≤ 1048576) :
    Calls Try.prog 52 #[.pointer (some ⟨g, 0, none⟩), .int .i64 now] w fun e w' => e = .returned (.tuple #[.int .i64 (nxB (nextL xs now)), .bool (nextL xs now).isSome]) ∧ Below w.heap.size w w' := by
  obtain ⟨A, n, c, rfl, hl, hc1, hc2⟩ := q.shape
  have HQ := Lib.hid q
  have HL := Lib.hid hl
  have hN2 : n ≤ 1048576 := by omega
  have dn : decide (0 ≤ now) = true := decide_eq_true hn.1
  clear q hl hN
  go_enter Try.func52, Try.ntmps52
  go_wp2_with fail
  go_loopw [6, 7, 8] (fun bv sv iv wr => ∃ (i : Nat) (b : Option Int), bv = .int .i64 (nxB b) ∧ sv = .bool b.isSome ∧ iv = .int .i64 i ∧ i ≤ n ∧ Hid (b = nextL (xs.take i) now) ∧ Hid (Below w.heap.size w wr)) (fun _ _ iv _ => n - (intOf iv).toNat)
  case atStart => exact ⟨0, none, rfl, rfl, rfl, Nat.zero_le _, Lib.hid rfl, Lib.hid (Below.refl _ _)⟩
  case round =>
    obtain ⟨i, b, rfl, rfl, rfl, hi, hbn, hb⟩ := hrel
    generalize wr = wj at *
    have HQj := Lib.hid (HQ.out.later hb.out)
    have g0 := HQj.out.blk.cell 0
    simp only [List.getElem?_toArray, List.getElem?_cons_zero, List.getElem?_cons_succ] at g0
    by_cases hlt : i < n
    · have hltI : (i : Int) < n := by omega
      obtain ⟨ad, x, hA, hxs, hxa⟩ := HQj.out.at_ hlt HL.out
      subst hA
      have HX := Lib.hid hxs
      have hgd := HQj.out.good x (List.mem_of_getElem? hxs)
      have hb4 : Below wj.heap.size wj (wj.alloc (.cells #[.int .u16 x.s.h.age, .int .u8 x.s.h.opts, .int .u8 x.s.h.typ, .int .u32 x.s.h.id, .int .u32 x.s.h.adv, .int .i32 x.s.h.seq, .int .u16 x.s.h.sum, .int .u16 x.s.h.len, .slice x.s.A x.s.n x.s.c, .int .i64 x.at_] 114)) := (Below.refl _ _).alloc (Nat.le_refl _) _
      have HO4 : Hid (Blk (wj.alloc (.cells #[.int .u16 x.s.h.age, .int .u8 x.s.h.opts, .int .u8 x.s.h.typ, .int .u32 x.s.h.id, .int .u32 x.s.h.adv, .int .i32 x.s.h.seq, .int .u16 x.s.h.sum, .int .u16 x.s.h.len, .slice x.s.A x.s.n x.s.c, .int .i64 x.at_] 114)) wj.heap.size 114 #[.int .u16 x.s.h.age, .int .u8 x.s.h.opts, .int .u8 x.s.h.typ, .int .u32 x.s.h.id, .int .u32 x.s.h.adv, .int .i32 x.s.h.seq, .int .u16 x.s.h.sum, .int .u16 x.s.h.len, .slice x.s.A x.s.n x.s.c, .int .i64 x.at_]) := Lib.hid (Blk.new _ _ _)
      have o0 := HO4.out.cell 0; have o1 := HO4.out.cell 1; have o2 := HO4.out.cell 2; have o3 := HO4.out.cell 3; have o4 := HO4.out.cell 4; have o5 := HO4.out.cell 5; have o6 := HO4.out.cell 6; have o7 := HO4.out.cell 7; have o8 := HO4.out.cell 8; have o9 := HO4.out.cell 9
      simp only [List.getElem?_toArray, List.getElem?_cons_zero, List.getElem?_cons_succ] at o0 o1 o2 o3 o4 o5 o6 o7 o8 o9
      have HAt := Lib.hid (at11 x now (wj.alloc (.cells #[.int .u16 x.s.h.age, .int .u8 x.s.h.opts, .int .u8 x.s.h.typ, .int .u32 x.s.h.id, .int .u32 x.s.h.adv, .int .i32 x.s.h.seq, .int .u16 x.s.h.sum, .int .u16 x.s.h.len, .slice x.s.A x.s.n x.s.c, .int .i64 x.at_] 114)) (hgd.1.later hb4) hgd.2 hn)
      have HB4 := Lib.hid (below_then hb.out hb4)
      have HGd := Lib.hid (And.intro hgd.1.head.age hgd.2)
      obtain ⟨q0, q1, q2, q3, q4, q5, q6, q7, q8, q9⟩ := hxa
      clear hxs hgd hb4
      go_wp2_with fail
      refine HAt.out.mono ?_
      rintro e w5 ⟨s', rfl, h1, h2, h3, h4, h5⟩
      have HAge := Lib.hid h2.head.age
      have HO5 := Lib.hid (HO4.out.later h5)
      have HB5 := Lib.hid (below_then HB4.out h5)
      have HS1 := Lib.hid h1
      clear h1 h2 h3 h4 h5 HAt HO4 HB4 q0 q1 q2 q3 q4 q5 q6 q7 q8 q9 g0 o0 o1 o2 o3 o4 o5 o6 o7 o8 o9 hb
      generalize wj.heap.size = b9 at *
      have HOl := Lib.hid (fun W : World => old05 s'.h.age W HAge.out.1 HAge.out.2)
      have hao : oldA (x.age now) = (yearsOf s'.h.age == 3600) := by rw [HS1.out]; rfl
      obtain ⟨o, ho⟩ : ∃ o, (yearsOf s'.h.age == 3600) = o := ⟨_, rfl⟩
      rw [ho] at HOl hao
      have HAo := Lib.hid hao
      clear ho hao
      have o0 := HO5.out.cell 0
      simp only [List.getElem?_toArray, List.getElem?_cons_zero, List.getElem?_cons_succ] at o0
      go_wp2_with (first | (refine wpList_val (o := ⟨some 34, _, _, _, _, _⟩) rfl (.agg #[.int .u16 s'.h.age, .int .u8 s'.h.opts, .int .u8 s'.h.typ, .int .u32 s'.h.id, .int .u32 s'.h.adv, .int .i32 s'.h.seq, .int .u16 s'.h.sum, .int .u16 s'.h.len]) (by kernel_rfl) ?_) | (refine wpList_val (o := ⟨some 35, _, _, _, _, _⟩) rfl (.int .u16 s'.h.age) (by kernel_rfl) ?_))
      refine (HOl.out _).mono ?_
      rintro e w' ⟨rfl, rfl⟩
      clear HOl
      cases o with
      | true =>
        have HST : Hid (stepW now b (x.s.key, x) = b) := Lib.hid (step_no (cand_no (.inr HAo.out)))
        go_wp2_with fail
        go_roundw
        case rel => exact ⟨i + 1, b, rfl, rfl, by go_num, by omega, Lib.hid (by rw [take_one HX.out, nextL_snoc, ← hbn.out]; exact HST.out.symm), HB5⟩
        case measure => simp [intOf]; omega
      | false =>
        by_cases hst : 32768 ≤ x.s.h.age
        · have HST : Hid (stepW now b (x.s.key, x) = b) := Lib.hid (step_no (cand_no (.inl hst)))
          have ds : decide (32768 ≤ x.s.h.age) = true := decide_eq_true hst
          go_wp2_with fail
          refine (still05 x.s.h.age _).mono ?_
          rintro e w' ⟨rfl, rfl⟩
          go_wp2_with fail
          go_roundw
          case rel => exact ⟨i + 1, b, rfl, rfl, by go_num, by omega, Lib.hid (by rw [take_one HX.out, nextL_snoc, ← hbn.out]; exact HST.out.symm), HB5⟩
          case measure => simp [intOf]; omega
        · have ds : decide (32768 ≤ x.s.h.age) = false := decide_eq_false hst
          go_wp2_with fail
          refine (still05 x.s.h.age _).mono ?_
          rintro e w' ⟨rfl, rfl⟩
          have hyg := young HGd.out.1 (by omega) HAo.out
          have HCd : Hid (candE now (x.s.key, x) = true) := Lib.hid (cand_iff.2 ⟨HAo.out, by show x.s.h.age < 32768; omega⟩)
          have hy : yearsOf x.s.h.age = x.s.h.age := by have := HGd.out.1; unfold yearsOf; omega
          have HY := Lib.hid (fun W : World => years05 x.s.h.age W HGd.out.1.1 HGd.out.1.2)
          rw [hy] at HY
          have hew := end_wrap x.s.h.age x.at_ HGd.out.1 HGd.out.2 hyg
          have HEw := Lib.hid hew
          clear o0 hew hy ds
          go_wp2_with fail
          have HS : Hid ((fun W : World => Blk W b9 114 #[.int .u16 x.s.h.age, .int .u8 x.s.h.opts, .int .u8 x.s.h.typ, .int .u32 x.s.h.id, .int .u32 x.s.h.adv, .int .i32 x.s.h.seq, .int .u16 x.s.h.sum, .int .u16 x.s.h.len, .slice x.s.A x.s.n x.s.c, .int .i64 x.at_]) w5.drew) := Lib.hid (HO5.out.later (Below.refl _ _).drew)
          have HB6 := Lib.hid HB5.out.drew
          clear HB5 HO5
          refine wp_region_s (fun W : World => Blk W b9 114 #[.int .u16 x.s.h.age, .int .u8 x.s.h.opts, .int .u8 x.s.h.typ, .int .u32 x.s.h.id, .int .u32 x.s.h.adv, .int .i32 x.s.h.seq, .int .u16 x.s.h.sum, .int .u16 x.s.h.len, .slice x.s.A x.s.n x.s.c, .int .i64 x.at_]) [(0, true), (3, true), (4, true), (5, true), (1, true), (2, true), (6, true), (7, false), (8, true), (9, true)] (by kernel_rfl) (fun _ d _ _ _ h => by cases d <;> exact h) ?_
          simp only [List.map_cons, List.map_nil, nthOp_zero, nthOp_succ]
          generalize w5.drew = w6 at *
          refine wpS_take HS (by kernel_rfl) (by intro W hW; clear hW; go_simp; try with_reducible rfl) ?_
          refine wpS_take HS (by kernel_rfl) (by intro W hW; clear hW; go_simp; try with_reducible rfl) ?_
          refine wpS_take HS (by kernel_rfl) (by intro W hW; clear hW; go_simp; try with_reducible rfl) ?_
          refine wpS_take HS (by kernel_rfl) (by intro W hW; clear hW; go_simp; try with_reducible rfl) ?_
          refine wpS_take HS (by kernel_rfl) (by intro W hW; have o0 := hW.cell 0; have o9 := hW.cell 9; simp only [List.getElem?_toArray, List.getElem?_cons_zero, List.getElem?_cons_succ] at o0 o9; clear hW; go_simp; try with_reducible rfl) ?_
          refine wpS_take HS (by kernel_rfl) (by intro W hW; clear hW; go_simp; try with_reducible rfl) ?_
          refine wpS_take HS (by kernel_rfl) (by intro W hW; have o0 := hW.cell 0; have o9 := hW.cell 9; simp only [List.getElem?_toArray, List.getElem?_cons_zero, List.getElem?_cons_succ] at o0 o9; clear hW; go_simp; try with_reducible rfl) ?_
          refine wpS_do fun K hK => ?_
          go_wp2_with fail
          refine (HY.out w6).mono ?_
          rintro e w' ⟨rfl, rfl⟩
          go_wp2_with fail
          refine hK.out _ _ HS.out ?_
          clear hK K
          refine wpS_take HS (by kernel_rfl) (by intro W hW; clear hW; go_simp; try with_reducible rfl) ?_
          refine wpS_take HS (by kernel_rfl) (by intro W hW; clear hW; go_simp; try with_reducible rfl) ?_
          refine wpS_nil ?_
          go_simp
          have HB5 := HB6
          clear HB6
          rcases HEw.out with ⟨k1, k2, k3⟩ | ⟨k1, k2⟩
          · rw [show IntKind.i64.wrap (wrap64 (x.at_ + 3600) - x.s.h.age) = x.at_ + 3600 - x.s.h.age from (by rw [← IntWalk.i64_left]; exact k2)]
            have HYes := Lib.hid (step_yes (b := b) HCd.out (show x.at_ + 3600 - x.s.h.age ≤ 9223372036854775807 from k1))
            have dt : decide (0 ≤ x.at_ + 3600 - x.s.h.age) = true := decide_eq_true k3
            clear k1 k2 HEw HY HCd HGd HAge HS1 HAo HS
            obtain ⟨t, ht⟩ : ∃ t, x.at_ + 3600 - x.s.h.age = t := ⟨_, rfl⟩
            have het : Hid ((x.s.key, x).2.end_ = t) := Lib.hid ht
            rw [ht] at dt k3 ⊢
            clear ht
            cases b with
            | none =>
              have HST : Hid (stepW now none (x.s.key, x) = some t) := Lib.hid (by rw [HYes.out]; simp only; rw [het.out])
              go_wp2_with fail
              go_roundw
              case rel => exact ⟨i + 1, some t, rfl, rfl, by go_num, by omega, Lib.hid (by rw [take_one HX.out, nextL_snoc, ← hbn.out]; exact HST.out.symm), HB5⟩
              case measure => simp [intOf]; omega
            | some t0 =>
              by_cases hlt0 : t < t0
              · have d7 : decide (t < t0) = true := decide_eq_true hlt0
                have HST : Hid (stepW now (some t0) (x.s.key, x) = some t) := Lib.hid (by rw [HYes.out]; simp only; rw [het.out, if_pos hlt0])
                go_wp2_with fail
                go_roundw
                case rel => exact ⟨i + 1, some t, rfl, rfl, by go_num, by omega, Lib.hid (by rw [take_one HX.out, nextL_snoc, ← hbn.out]; exact HST.out.symm), HB5⟩
                case measure => simp [intOf]; omega
              · have d7 : decide (t < t0) = false := decide_eq_false hlt0
                have HST : Hid (stepW now (some t0) (x.s.key, x) = some t0) := Lib.hid (by rw [HYes.out]; simp only; rw [het.out, if_neg hlt0])
                go_wp2_with fail
                go_roundw
                case rel => exact ⟨i + 1, some t0, rfl, rfl, by go_num, by omega, Lib.hid (by rw [take_one HX.out, nextL_snoc, ← hbn.out]; exact HST.out.symm), HB5⟩
                case measure => simp [intOf]; omega
          · have HST : Hid (stepW now b (x.s.key, x) = b) := Lib.hid (step_wide (show 9223372036854775807 < x.at_ + 3600 - x.s.h.age from k1))
            have k3 : IntKind.i64.wrap (wrap64 (x.at_ + 3600) - x.s.h.age) < 0 := by rw [← IntWalk.i64_left]; exact k2
            clear k2
            obtain ⟨t, ht⟩ : ∃ t, IntKind.i64.wrap (wrap64 (x.at_ + 3600) - x.s.h.age) = t := ⟨_, rfl⟩
            rw [ht] at k3 ⊢
            have dt : decide (0 ≤ t) = false := decide_eq_false (by omega)
            clear ht k1 HEw HY HCd HGd HAge HS1 HAo HS
            go_wp2_with fail
            go_roundw
            case rel => exact ⟨i + 1, b, rfl, rfl, by go_num, by omega, Lib.hid (by rw [take_one HX.out, nextL_snoc, ← hbn.out]; exact HST.out.symm), HB5⟩
            case measure => simp [intOf]; omega
    · obtain rfl : i = n := by omega
      go_wp2_with fail
      go_ret2
      refine ⟨?_, hb.out⟩
      show Ending.returned (.tuple #[.int .i64 (nxB b), .bool b.isSome]) = _
      rw [hbn.out, List.take_of_length_le (by rw [HL.out]; exact Nat.le_refl _)]
end Go.Proofs.Ytpncbggjngamgaa
namespace Go.Proofs.Ytpncbggjngamgaa
set_option linter.unusedVariables false
open Go.RowKit

def KeysApart (L : List OpS) : Prop := L.Pairwise fun a b => a.s.key ≠ b.s.key
theorem apart_of {L : List OpS} (h : ∀ (i k : Nat) (a b : OpS), k < i → L[i]? = some a → L[k]? = some b → a.s.key ≠ b.s.key) : KeysApart L := by
  unfold KeysApart
  rw [List.pairwise_iff_getElem]
  intro i j hi hj hij e
  exact h j i _ _ hij (List.getElem?_eq_getElem hj) (List.getElem?_eq_getElem hi) e.symm
theorem fillC_at : ∀ (n : Nat) (L : List OpS), L.length = n → KeysApart L → ∀ o ∈ L, fillC L o.s.key = some (o.s.h, o.s.B, max o.now 0) := by
  intro n
  induction n with
  | zero =>
    intro L hl _ o ho
    rw [List.length_eq_zero_iff] at hl
    subst hl
    cases ho
  | succ n ih =>
    intro L hl hp o ho
    rcases List.eq_nil_or_concat L with rfl | ⟨l, a, rfl⟩
    · simp at hl
    · rw [List.concat_eq_append] at *
      rw [fillC_snoc]
      unfold upC
      unfold KeysApart at hp
      rw [List.pairwise_append] at hp
      rcases List.mem_append.1 ho with h | h
      · rw [if_neg (hp.2.2 o h a (by simp))]
        exact ih l (by simp at hl; omega) hp.1 o h
      · rw [List.mem_singleton] at h
        subst h
        rw [if_pos rfl]
theorem fillC_rev {L : List OpS} (h : KeysApart L) : fillC L.reverse = fillC L := by
  have hr : KeysApart L.reverse := by
    unfold KeysApart at *
    rw [List.pairwise_reverse]
    exact h.imp fun hab => hab.symm
  funext k
  cases hk : fillC L k with
  | some c =>
    obtain ⟨o, ho, h1, h2⟩ := fillC_some _ L rfl k c hk
    subst h1
    rw [fillC_at _ _ rfl hr o (List.mem_reverse.2 ho), h2]
  | none =>
    cases hk2 : fillC L.reverse k with
    | none => rfl
    | some c =>
      obtain ⟨o, ho, h1, h2⟩ := fillC_some _ L.reverse rfl k c hk2
      subst h1
      rw [fillC_at _ _ rfl h o (List.mem_reverse.1 ho)] at hk
      cases hk
theorem cont_some (f : Ky3 → Option OneE) (k : Ky3) : (contF f k).isSome = (f k).isSome := by unfold contF; cases f k <;> rfl
theorem cont_at {f f' : Ky3 → Option OneE} (h : contF f = contF f') (t : Int) (k : Ky3) : hAt f t k = hAt f' t k ∧ bAt f k = bAt f' k := by
  have hk := congrFun h k
  unfold contF at hk
  unfold hAt bAt
  cases e : f k with
  | none =>
    cases e' : f' k with
    | none => exact ⟨rfl, rfl⟩
    | some y => rw [e, e'] at hk; cases hk
  | some x =>
    cases e' : f' k with
    | none => rw [e, e'] at hk; cases hk
    | some y =>
      rw [e, e'] at hk
      injection hk with hk
      injection hk with h1 h2
      injection h2 with h2 h3
      simp only [Option.getD_some]
      unfold OneE.headAt OneE.age
      rw [h1, h3]
      exact ⟨rfl, h2⟩
theorem ks_cont {f f' : Ky3 → Option OneE} {n m : Nat} {ks ls : List Ky3} (h : KsOf f n ks) (h2 : KsOf f' m ls) (hs : ∀ k, (f' k).isSome = (f k).isSome) : ls = ks :=
  asc_unique ls ks h2.asc h.asc fun e => by rw [h2.mem, h.mem, hs]
/-- What is held where those of the keys K were put again as they were found. -/
def agC (f : Ky3 → Option OneE) (now : Int) (K : List Ky3) : Ky3 → Option (Hd × List Int × Int) := fun k => if k ∈ K then some (hAt f now k, bAt f k, now) else contF f k
theorem agC_nil (f : Ky3 → Option OneE) (now : Int) : agC f now [] = contF f := by funext k; unfold agC; simp
theorem agC_step {f fj : Ky3 → Option OneE} {now : Int} {ks : List Ky3} {j : Nat} {k : Ky3} {x : SE} (hc : contF fj = agC f now (ks.take j)) (hk : ks[j]? = some k) (h1 : x.h = hAt f now k) (h2 : x.B = bAt f k) :
    contF (updK fj k ⟨x, now⟩) = agC f now (ks.take (j + 1)) := by
  funext k'
  have hq := congrFun hc k'
  unfold contF updK agC at *
  rw [List.take_add_one, hk, Option.toList_some]
  by_cases e : k' = k
  · subst e
    rw [if_pos rfl, if_pos (by simp), Option.map_some, h1, h2]
  · rw [if_neg e, hq]
    by_cases e2 : k' ∈ ks.take j
    · rw [if_pos e2, if_pos (by simp [e2])]
    · rw [if_neg e2, if_neg (by simp [e2, e])]
theorem laterA_comp {a p1 p2 : Int} (ha : 0 ≤ a ∧ a ≤ 65535) (h1 : 0 ≤ p1) (h2 : 0 ≤ p2) : laterA (laterA a p1) p2 = laterA a (p1 + p2) := by
  by_cases h : 32768 ≤ a
  · rw [laterA_same (.inl h), laterA_same (.inl h), laterA_same (.inl h)]
  · have hz : ∀ p, ¬ p < 1 → laterA a p = min (yearsOf a + min p 3600) 3600 := fun p hp => laterA_more h hp
    by_cases e1 : p1 < 1
    · rw [laterA_same (a := a) (p := p1) (.inr e1), show p1 + p2 = p2 by omega]
    · rw [hz p1 e1]
      have hy := years_bound a ha.1
      by_cases e2 : p2 < 1
      · rw [laterA_same (.inr e2), show p1 + p2 = p1 by omega, hz p1 e1]
      · rw [laterA_more (by omega) e2, hz (p1 + p2) (by omega)]
        have : yearsOf (min (yearsOf a + min p1 3600) 3600) = min (yearsOf a + min p1 3600) 3600 := by
          generalize hm : min (yearsOf a + min p1 3600) 3600 = m
          unfold yearsOf
          omega
        rw [this]
        omega
/-- What was put again as it was found is the same for all times to come. -/
theorem again_at {f f' : Ky3 → Option OneE} {now later : Int} {n : Nat} {ks : List Ky3} (hf : FewAt f) (h : KsOf f n ks) (hc : contF f' = agC f now ks) (hn : ∀ k x, f k = some x → x.at_ ≤ now) (hl : now ≤ later) (k : Ky3) :
    hAt f' later k = hAt f later k ∧ bAt f' k = bAt f k ∧ (f' k).isSome = (f k).isSome := by
  have hk := congrFun hc k
  have hm := h.mem k
  have hs := congrArg Option.isSome hk
  rw [cont_some] at hs
  unfold agC at hk hs
  cases e : f k with
  | none =>
    have hnm : k ∉ ks := fun hi => by have := hm.1 hi; rw [e] at this; cases this
    rw [if_neg hnm] at hk hs
    rw [cont_some, e] at hs
    unfold hAt bAt
    cases e' : f' k with
    | none => rw [e]; exact ⟨rfl, rfl, rfl⟩
    | some y => rw [e'] at hs; cases hs
  | some x =>
    have hmk : k ∈ ks := hm.2 (by rw [e]; rfl)
    rw [if_pos hmk] at hk hs
    cases e' : f' k with
    | none => rw [e'] at hs; cases hs
    | some y =>
      unfold contF at hk
      rw [e'] at hk
      injection hk with hk
      injection hk with h1 h2
      injection h2 with h2 h3
      have hx : hAt f now k = x.headAt now := by unfold hAt; rw [e]; rfl
      have hb : bAt f k = x.s.B := by unfold bAt; rw [e]; rfl
      have hage := (hf k x e).2.age
      have hat := hn k x e
      refine ⟨?_, ?_, rfl⟩
      · have g1 : hAt f' later k = y.headAt later := by unfold hAt; rw [e']; rfl
        have g2 : hAt f later k = x.headAt later := by unfold hAt; rw [e]; rfl
        rw [g1, g2]
        unfold OneE.headAt OneE.age
        rw [h1, h3, hx]
        unfold OneE.headAt OneE.age
        simp only
        rw [laterA_comp hage (by omega) (by omega), show now - x.at_ + (later - now) = later - x.at_ by omega]
      · have g1 : bAt f' k = y.s.B := by unfold bAt; rw [e']; rfl
        rw [g1, h2]
end Go.Proofs.Ytpncbggjngamgaa
namespace Go.Proofs.Ytpncbggjngamgaa
set_option linter.unusedVariables false
open Go.RowKit

/-- The store f holds just what the row xs says, and the row is in its keys' order. -/
structure Link (f : Ky3 → Option OneE) (xs : List OneE) : Prop where
  asc : ∀ (i j : Nat) (x y : OneE), i < j → xs[i]? = some x → xs[j]? = some y → ltK x.s.key y.s.key = true
  key : ∀ k x, f k = some x → x.s.key = k
  same : ∀ k, contF f k = (rowAt xs k).map fun x => (x.s.h, x.s.B, x.at_)
theorem Link.row {f : Ky3 → Option OneE} {xs : List OneE} (l : Link f xs) {i : Nat} {x : OneE} (h : xs[i]? = some x) : rowAt xs x.s.key = some x := by
  unfold rowAt
  rw [List.find?_eq_some_iff_getElem]
  have hi := (List.getElem?_eq_some_iff.1 h).1
  have he := (List.getElem?_eq_some_iff.1 h).2
  refine ⟨by simp, i, hi, he, fun j hj => ?_⟩
  have h1 := l.asc j i _ x hj (List.getElem?_eq_getElem (by omega)) h
  simp only [Bool.not_eq_true', decide_eq_false_iff_not]
  intro e
  rw [e, ltK_irrefl] at h1
  cases h1
theorem Link.at_ {f : Ky3 → Option OneE} {xs : List OneE} (l : Link f xs) {x : OneE} (h : x ∈ xs) : ∃ y, f x.s.key = some y ∧ y.s.h = x.s.h ∧ y.s.B = x.s.B ∧ y.at_ = x.at_ := by
  obtain ⟨i, hi⟩ := List.getElem?_of_mem h
  have h1 := l.same x.s.key
  rw [l.row hi] at h1
  unfold contF at h1
  cases hf : f x.s.key with
  | none => rw [hf] at h1; cases h1
  | some y =>
    rw [hf] at h1
    injection h1 with h1
    injection h1 with h2 h3
    injection h3 with h3 h4
    exact ⟨y, rfl, h2, h3, h4⟩
theorem Link.ks {f : Ky3 → Option OneE} {xs : List OneE} (l : Link f xs) : KsOf f xs.length (xs.map fun x => x.s.key) := by
  refine ⟨fun k => ⟨fun h => ?_, fun h => ?_⟩, fun i j a b hij ha hb => ?_, by rw [List.length_map]⟩
  · obtain ⟨x, hx, rfl⟩ := List.mem_map.1 h
    obtain ⟨y, hy, _⟩ := l.at_ hx
    rw [hy]; rfl
  · have h1 := l.same k
    obtain ⟨y, hy⟩ := Option.isSome_iff_exists.1 h
    unfold contF at h1
    rw [hy] at h1
    cases hr : rowAt xs k with
    | none => rw [hr] at h1; cases h1
    | some x =>
      unfold rowAt at hr
      have hm := List.mem_of_find?_eq_some hr
      have hk := List.find?_some hr
      exact List.mem_map.2 ⟨x, hm, of_decide_eq_true hk⟩
  · rw [List.getElem?_map] at ha hb
    obtain ⟨x, hx, rfl⟩ := Option.map_eq_some_iff.1 ha
    obtain ⟨y, hy, rfl⟩ := Option.map_eq_some_iff.1 hb
    exact l.asc i j x y hij hx hy
theorem Link.heads {f : Ky3 → Option OneE} {xs : List OneE} (l : Link f xs) (t : Int) : (xs.map fun x => x.s.key).map (hAt f t) = xs.map fun x => x.headAt t := by
  rw [List.map_map]
  refine List.map_congr_left fun x hx => ?_
  obtain ⟨y, hy, h1, h2, h3⟩ := l.at_ hx
  show hAt f t x.s.key = x.headAt t
  unfold hAt
  rw [hy]
  show y.headAt t = x.headAt t
  unfold OneE.headAt OneE.age
  rw [h1, h3]
theorem Link.bodies {f : Ky3 → Option OneE} {xs : List OneE} (l : Link f xs) : (xs.map fun x => x.s.key).map (bAt f) = xs.map fun x => x.s.B := by
  rw [List.map_map]
  refine List.map_congr_left fun x hx => ?_
  obtain ⟨y, hy, h1, h2, h3⟩ := l.at_ hx
  show bAt f x.s.key = x.s.B
  unfold bAt
  rw [hy]
  exact h2
theorem Link.due {f : Ky3 → Option OneE} {xs : List OneE} (l : Link f xs) (t : Int) : dueK f t (xs.map fun x => x.s.key) = dueL xs t := by
  unfold dueK dueL
  rw [List.filter_map]
  congr 1
  refine List.filter_congr fun x hx => ?_
  obtain ⟨y, hy, h1, h2, h3⟩ := l.at_ hx
  show oldA (hAt f t x.s.key).age = oldA (x.age t)
  unfold hAt
  rw [hy]
  show oldA (y.headAt t).age = _
  unfold OneE.headAt OneE.age
  rw [h1, h3]
theorem stepW_same {now : Int} {b : Option Int} {k k' : Ky3} {x y : OneE} (h1 : y.s.h = x.s.h) (h2 : y.at_ = x.at_) : stepW now b (k, y) = stepW now b (k', x) := by
  unfold stepW candE OneE.age OneE.end_
  rw [h1, h2]
theorem Link.next {f : Ky3 → Option OneE} {xs : List OneE} (l : Link f xs) (t : Int) : nextK f t (xs.map fun x => x.s.key) = nextL xs t := by
  unfold nextK nextL
  have key : ∀ (ys : List OneE) (b : Option Int), (∀ x ∈ ys, x ∈ xs) → ((ys.map fun x => x.s.key).map (entK f)).foldl (stepW t) b = (ys.map fun x => (x.s.key, x)).foldl (stepW t) b := by
    intro ys
    induction ys with
    | nil => intro b _; rfl
    | cons x r ih =>
      intro b h
      obtain ⟨y, hy, h1, h2, h3⟩ := l.at_ (h x List.mem_cons_self)
      rw [List.map_cons, List.map_cons, List.map_cons, List.foldl_cons, List.foldl_cons]
      have e : stepW t b (entK f x.s.key) = stepW t b (x.s.key, x) := by
        unfold entK
        rw [hy]
        exact stepW_same h1 h3
      rw [e]
      exact ih _ fun z hz => h z (List.mem_cons_of_mem _ hz)
  exact key xs none fun x hx => hx
end Go.Proofs.Ytpncbggjngamgaa
namespace Go.Proofs.Ytpncbggjngamgaa
set_option linter.unusedVariables false
open Go.RowKit

/-- A row of states in the order of their keys. -/
def AscL (xs : List OneE) : Prop := xs.Pairwise fun a b => ltK a.s.key b.s.key = true
theorem Link.ascL {f : Ky3 → Option OneE} {xs : List OneE} (l : Link f xs) : AscL xs := by
  unfold AscL
  rw [List.pairwise_iff_getElem]
  intro i j hi hj hij
  exact l.asc i j _ _ hij (List.getElem?_eq_getElem hi) (List.getElem?_eq_getElem hj)
theorem AscL.asc {xs : List OneE} (h : AscL xs) : ∀ (i j : Nat) (x y : OneE), i < j → xs[i]? = some x → xs[j]? = some y → ltK x.s.key y.s.key = true := by
  intro i j x y hij hx hy
  unfold AscL at h
  rw [List.pairwise_iff_getElem] at h
  obtain ⟨hi, rfl⟩ := List.getElem?_eq_some_iff.1 hx
  obtain ⟨hj, rfl⟩ := List.getElem?_eq_some_iff.1 hy
  exact h i j hi hj hij
theorem rowAt_some {xs : List OneE} {k : Ky3} {x : OneE} (h : rowAt xs k = some x) : x ∈ xs ∧ x.s.key = k := by
  unfold rowAt at h
  have h2 := List.find?_some h
  exact ⟨List.mem_of_find?_eq_some h, of_decide_eq_true h2⟩
theorem AscL.inj {xs : List OneE} (h : AscL xs) {x y : OneE} (hx : x ∈ xs) (hy : y ∈ xs) (e : x.s.key = y.s.key) : x = y := by
  obtain ⟨i, hi⟩ := List.getElem?_of_mem hx
  obtain ⟨j, hj⟩ := List.getElem?_of_mem hy
  rcases Nat.lt_trichotomy i j with hij | hij | hij
  · have := h.asc i j x y hij hi hj
    rw [e, ltK_irrefl] at this; cases this
  · subst hij
    rw [hi] at hj
    injection hj
  · have := h.asc j i y x hij hj hi
    rw [e, ltK_irrefl] at this; cases this
theorem AscL.rowAt {xs : List OneE} (h : AscL xs) {x : OneE} (hx : x ∈ xs) : rowAt xs x.s.key = some x := by
  cases hr : Go.Proofs.Ytpncbggjngamgaa.rowAt xs x.s.key with
  | none =>
    unfold Go.Proofs.Ytpncbggjngamgaa.rowAt at hr
    rw [List.find?_eq_none] at hr
    exact absurd (decide_eq_true (rfl : x.s.key = x.s.key)) (hr x hx)
  | some y =>
    obtain ⟨h1, h2⟩ := rowAt_some hr
    rw [h.inj h1 hx h2]
/-- What a row answers, told by its members. -/
theorem AscL.at_iff {xs : List OneE} (h : AscL xs) (k : Ky3) (x : OneE) : Go.Proofs.Ytpncbggjngamgaa.rowAt xs k = some x ↔ x ∈ xs ∧ x.s.key = k := by
  constructor
  · exact rowAt_some
  · rintro ⟨h1, rfl⟩
    exact h.rowAt h1
theorem opt_ext {α : Type} {a b : Option α} (h : ∀ x, a = some x ↔ b = some x) : a = b := by
  cases a with
  | none =>
    cases b with
    | none => rfl
    | some y => exact ((h y).2 rfl)
  | some y => exact ((h y).1 rfl).symm
/-- The row with y in the place of what has its key. -/
theorem AscL.set {xs : List OneE} (h : AscL xs) {i : Nat} {x y : OneE} (hx : xs[i]? = some x) (hk : y.s.key = x.s.key) : AscL (xs.set i y) ∧ ∀ k, Go.Proofs.Ytpncbggjngamgaa.rowAt (xs.set i y) k = if k = y.s.key then some y else Go.Proofs.Ytpncbggjngamgaa.rowAt xs k := by
  have hi := (List.getElem?_eq_some_iff.1 hx).1
  have hA : AscL (xs.set i y) := by
    unfold AscL
    rw [List.pairwise_iff_getElem]
    intro a b ha hb hab
    rw [List.length_set] at ha hb
    rw [List.getElem_set, List.getElem_set]
    by_cases h1 : i = a
    · subst h1
      rw [if_pos rfl, if_neg (by omega), hk]
      exact h.asc i b x _ hab hx (List.getElem?_eq_getElem hb)
    · rw [if_neg h1]
      by_cases h2 : i = b
      · subst h2
        rw [if_pos rfl, hk]
        exact h.asc a i _ x hab (List.getElem?_eq_getElem ha) hx
      · rw [if_neg h2]
        exact h.asc a b _ _ hab (List.getElem?_eq_getElem ha) (List.getElem?_eq_getElem hb)
  have hmem : ∀ z, z ∈ xs.set i y ↔ (z = y ∨ (z ∈ xs ∧ z.s.key ≠ y.s.key)) := by
    intro z
    constructor
    · intro hz
      by_cases e : z.s.key = y.s.key
      · left
        exact hA.inj hz (List.mem_iff_getElem.2 ⟨i, by rw [List.length_set]; exact hi, by simp⟩) e
      · rcases List.mem_or_eq_of_mem_set hz with h1 | h1
        · exact .inr ⟨h1, e⟩
        · exact .inl h1
    · rintro (rfl | ⟨h1, h2⟩)
      · exact List.mem_iff_getElem.2 ⟨i, by rw [List.length_set]; exact hi, by simp⟩
      · obtain ⟨j, hj, rfl⟩ := List.mem_iff_getElem.1 h1
        have hij : i ≠ j := by
          rintro rfl
          have e := (List.getElem?_eq_some_iff.1 hx).2
          rw [e, hk] at h2
          exact h2 rfl
        exact List.mem_iff_getElem.2 ⟨j, by rw [List.length_set]; exact hj, by rw [List.getElem_set, if_neg hij]⟩
  refine ⟨hA, fun k => opt_ext fun z => ?_⟩
  rw [hA.at_iff, hmem]
  by_cases e : k = y.s.key
  · rw [if_pos e]
    constructor
    · rintro ⟨h1 | ⟨_, h2⟩, h3⟩
      · rw [h1]
      · exact absurd (h3.trans e) h2
    · intro h1
      injection h1 with h1
      subst h1
      exact ⟨.inl rfl, e.symm⟩
  · rw [if_neg e, h.at_iff]
    constructor
    · rintro ⟨h1 | ⟨h1, h2⟩, h3⟩
      · subst h1
        exact absurd h3.symm e
      · exact ⟨h1, h3⟩
    · rintro ⟨h1, h3⟩
      exact ⟨.inr ⟨h1, fun h4 => e (h3.symm.trans h4)⟩, h3⟩
/-- The row with y laid at the place where the keys are behind its. -/
theorem AscL.ins {xs : List OneE} (h : AscL xs) {i : Nat} {y : OneE} (h1 : ∀ j x, j < i → xs[j]? = some x → ltK x.s.key y.s.key = true) (h2 : ∀ x, xs[i]? = some x → ltK x.s.key y.s.key = false) (h3 : ∀ x ∈ xs, x.s.key ≠ y.s.key) :
    AscL (xs.take i ++ [y] ++ xs.drop i) ∧ ∀ k, Go.Proofs.Ytpncbggjngamgaa.rowAt (xs.take i ++ [y] ++ xs.drop i) k = if k = y.s.key then some y else Go.Proofs.Ytpncbggjngamgaa.rowAt xs k := by
  have hfr : ∀ x ∈ xs.take i, ltK x.s.key y.s.key = true := by
    intro x hx
    obtain ⟨j, hj, rfl⟩ := List.mem_iff_getElem.1 hx
    rw [List.length_take] at hj
    rw [List.getElem_take]
    exact h1 j _ (by omega) (List.getElem?_eq_getElem (by omega))
  have hbk : ∀ x ∈ xs.drop i, ltK y.s.key x.s.key = true := by
    intro x hx
    obtain ⟨j, hj, rfl⟩ := List.mem_iff_getElem.1 hx
    rw [List.length_drop] at hj
    rw [List.getElem_drop]
    have hi : i < xs.length := by omega
    have ha := h2 _ (List.getElem?_eq_getElem hi)
    have hm := h3 _ (List.getElem_mem hi)
    have hb : ltK y.s.key xs[i].s.key = true := by
      cases hq : ltK y.s.key xs[i].s.key with
      | true => rfl
      | false => exact absurd (ltK_eq ha hq) hm
    rcases Nat.eq_zero_or_pos j with e | e
    · subst e; exact hb
    · exact ltK_trans hb (h.asc i (i + j) _ _ (by omega) (List.getElem?_eq_getElem hi) (List.getElem?_eq_getElem (by omega)))
  have hA : AscL (xs.take i ++ [y] ++ xs.drop i) := by
    unfold AscL at h ⊢
    rw [List.pairwise_append, List.pairwise_append]
    refine ⟨⟨h.sublist (List.take_sublist i xs), List.pairwise_singleton _ _, fun a ha b hb => ?_⟩, h.sublist (List.drop_sublist i xs), fun a ha b hb => ?_⟩
    · rw [List.mem_singleton] at hb
      subst hb
      exact hfr a ha
    · rcases List.mem_append.1 ha with ha | ha
      · exact ltK_trans (hfr a ha) (hbk b hb)
      · rw [List.mem_singleton] at ha
        subst ha
        exact hbk b hb
  have hmem : ∀ z, z ∈ xs.take i ++ [y] ++ xs.drop i ↔ (z = y ∨ z ∈ xs) := by
    intro z
    constructor
    · intro hz
      rcases List.mem_append.1 hz with hz | hz
      · rcases List.mem_append.1 hz with hz | hz
        · exact .inr (List.mem_of_mem_take hz)
        · exact .inl (List.mem_singleton.1 hz)
      · exact .inr (List.mem_of_mem_drop hz)
    · rintro (rfl | hz)
      · exact List.mem_append_left _ (List.mem_append_right _ (List.mem_singleton.2 rfl))
      · have hz2 := hz
        rw [← List.take_append_drop i xs] at hz
        rcases List.mem_append.1 hz with hz | hz
        · exact List.mem_append_left _ (List.mem_append_left _ hz)
        · exact List.mem_append_right _ hz
  refine ⟨hA, fun k => opt_ext fun z => ?_⟩
  rw [hA.at_iff, hmem]
  by_cases e : k = y.s.key
  · rw [if_pos e]
    constructor
    · rintro ⟨h4 | h4, h5⟩
      · rw [h4]
      · exact absurd (h5.trans e) (h3 z h4)
    · intro h4
      injection h4 with h4
      subst h4
      exact ⟨.inl rfl, e.symm⟩
  · rw [if_neg e, h.at_iff]
    constructor
    · rintro ⟨h4 | h4, h5⟩
      · subst h4
        exact absurd h5.symm e
      · exact ⟨h4, h5⟩
    · rintro ⟨h4, h5⟩
      exact ⟨.inr h4, h5⟩
/-- The row without what stands at a place. -/
theorem AscL.cut {xs : List OneE} (h : AscL xs) {i : Nat} {x : OneE} (hx : xs[i]? = some x) :
    AscL (xs.take i ++ xs.drop (i + 1)) ∧ ∀ k, Go.Proofs.Ytpncbggjngamgaa.rowAt (xs.take i ++ xs.drop (i + 1)) k = if k = x.s.key then none else Go.Proofs.Ytpncbggjngamgaa.rowAt xs k := by
  have hi := (List.getElem?_eq_some_iff.1 hx).1
  have he := (List.getElem?_eq_some_iff.1 hx).2
  have hA : AscL (xs.take i ++ xs.drop (i + 1)) := by
    rw [← List.eraseIdx_eq_take_drop_succ]
    exact List.Pairwise.sublist (List.eraseIdx_sublist xs i) h
  have hmem : ∀ z, z ∈ xs.take i ++ xs.drop (i + 1) ↔ (z ∈ xs ∧ z.s.key ≠ x.s.key) := by
    intro z
    constructor
    · intro hz
      rcases List.mem_append.1 hz with hz | hz
      · obtain ⟨j, hj, rfl⟩ := List.mem_iff_getElem.1 hz
        rw [List.length_take] at hj
        rw [List.getElem_take]
        refine ⟨List.getElem_mem _, fun e => ?_⟩
        have := h.asc j i _ x (by omega) (List.getElem?_eq_getElem (by omega)) hx
        rw [e, ltK_irrefl] at this
        cases this
      · obtain ⟨j, hj, rfl⟩ := List.mem_iff_getElem.1 hz
        rw [List.length_drop] at hj
        rw [List.getElem_drop]
        refine ⟨List.getElem_mem _, fun e => ?_⟩
        have := h.asc i (i + 1 + j) x _ (by omega) hx (List.getElem?_eq_getElem (by omega))
        rw [e, ltK_irrefl] at this
        cases this
    · rintro ⟨hz, hne⟩
      obtain ⟨j, hj, rfl⟩ := List.mem_iff_getElem.1 hz
      rcases Nat.lt_trichotomy j i with hji | hji | hji
      · exact List.mem_append_left _ (List.mem_iff_getElem.2 ⟨j, by rw [List.length_take]; omega, List.getElem_take⟩)
      · subst hji
        rw [he] at hne
        exact absurd rfl hne
      · refine List.mem_append_right _ (List.mem_iff_getElem.2 ⟨j - (i + 1), by rw [List.length_drop]; omega, ?_⟩)
        rw [List.getElem_drop]
        have e : i + 1 + (j - (i + 1)) = j := by omega
        simp only [e]
  refine ⟨hA, fun k => opt_ext fun z => ?_⟩
  rw [hA.at_iff, hmem]
  by_cases e : k = x.s.key
  · rw [if_pos e]
    constructor
    · rintro ⟨⟨_, h4⟩, h5⟩
      exact absurd (h5.trans e) h4
    · intro h4; cases h4
  · rw [if_neg e, h.at_iff]
    constructor
    · rintro ⟨⟨h4, _⟩, h5⟩
      exact ⟨h4, h5⟩
    · rintro ⟨h4, h5⟩
      exact ⟨⟨h4, fun h6 => e (h5.symm.trans h6)⟩, h5⟩
/-- What the reference's Put leaves: y in the row at its key. -/
def PutRow (xs xs' : List OneE) (y : OneE) : Prop := AscL xs' ∧ ∀ k, Go.Proofs.Ytpncbggjngamgaa.rowAt xs' k = if k = y.s.key then some y else Go.Proofs.Ytpncbggjngamgaa.rowAt xs k
theorem Link.put {f : Ky3 → Option OneE} {xs xs' : List OneE} {x y : OneE} (l : Link f xs) (h : PutRow xs xs' y) (h1 : x.s.h = y.s.h) (h2 : x.s.B = y.s.B) (h3 : x.at_ = y.at_) {k : Ky3} (hk : y.s.key = k) (hk2 : x.s.key = k) : Link (updK f k x) xs' := by
  refine ⟨h.1.asc, fun k' x' hx' => ?_, fun k' => ?_⟩
  · unfold updK at hx'
    by_cases e : k' = k
    · rw [if_pos e] at hx'
      injection hx' with hx'
      rw [← hx', hk2, e]
    · rw [if_neg e] at hx'
      exact l.key k' x' hx'
  · rw [h.2]
    unfold contF updK
    by_cases e : k' = k
    · rw [if_pos e, if_pos (e.trans hk.symm), Option.map_some, Option.map_some, h1, h2, h3]
    · rw [if_neg e, if_neg (fun e2 => e (e2.trans hk))]
      exact l.same k'
/-- A store without a key. -/
def dropK (f : Ky3 → Option OneE) (k : Ky3) : Ky3 → Option OneE := fun k' => if k' = k then none else f k'
def CutRow (xs xs' : List OneE) (k : Ky3) : Prop := AscL xs' ∧ ∀ k', Go.Proofs.Ytpncbggjngamgaa.rowAt xs' k' = if k' = k then none else Go.Proofs.Ytpncbggjngamgaa.rowAt xs k'
theorem Link.drop {f : Ky3 → Option OneE} {xs xs' : List OneE} (l : Link f xs) {k : Ky3} (h : CutRow xs xs' k) : Link (dropK f k) xs' := by
  refine ⟨h.1.asc, fun k' x' hx' => ?_, fun k' => ?_⟩
  · unfold dropK at hx'
    by_cases e : k' = k
    · rw [if_pos e] at hx'; cases hx'
    · rw [if_neg e] at hx'
      exact l.key k' x' hx'
  · rw [h.2]
    unfold contF dropK
    by_cases e : k' = k
    · rw [if_pos e, if_pos e]
    · rw [if_neg e, if_neg e]
      exact l.same k'
theorem Link.some_ {f : Ky3 → Option OneE} {xs : List OneE} (l : Link f xs) {k : Ky3} {x : OneE} (h : Go.Proofs.Ytpncbggjngamgaa.rowAt xs k = some x) : ∃ z, f k = some z ∧ z.s.h = x.s.h ∧ z.s.B = x.s.B ∧ z.at_ = x.at_ := by
  have h1 := l.same k
  rw [h] at h1
  unfold contF at h1
  cases hf : f k with
  | none => rw [hf] at h1; cases h1
  | some y =>
    rw [hf] at h1
    injection h1 with h1
    injection h1 with h2 h3
    injection h3 with h3 h4
    exact ⟨y, rfl, h2, h3, h4⟩
theorem Link.none_ {f : Ky3 → Option OneE} {xs : List OneE} (l : Link f xs) {k : Ky3} (h : Go.Proofs.Ytpncbggjngamgaa.rowAt xs k = none) : f k = none := by
  have h1 := l.same k
  rw [h] at h1
  unfold contF at h1
  cases hf : f k with
  | none => rfl
  | some y => rw [hf] at h1; cases h1
theorem link_nil : Link (fun _ => none) [] := ⟨fun i j x y _ h _ => by simp at h, fun k x h => (by cases h), fun k => rfl⟩
end Go.Proofs.Ytpncbggjngamgaa
namespace Go.Proofs.Ytpncbggjngamgaa
set_option linter.unusedVariables false
open Go.RowKit

/-- The block behind such a store. -/
def putIn (cur : Array Value) (o : Nat) (cells : Array Value) : Array Value := (cur.toList.take o ++ cells.toList ++ cur.toList.drop (o + cells.size)).toArray
theorem run_storeVar_in {P : Program} (w : World) (g o : Nat) (t ty : TypeId) (cur cells : Array Value) (hg : Blk w g t cur) (hi : (P.info? ty).map (·.size) = some cells.size) (hle : o + cells.size ≤ cur.size) (h1 : ∀ v ∈ cells.toList, v.oneCell' = true) :
    (storeVar ty ⟨g, o, none⟩ (.agg cells)).run P w = .ok () (w.setRow g (putIn cur o cells)) := by
  have := run_storeCells_at (P := P) g o t cells.toList 0 cur w hg (by simpa using hle) h1
  simp only [Nat.add_zero, Array.length_toList] at this
  cases hq : P.info? ty with
  | none => simp [hq] at hi
  | some i =>
    have hs : cells.size = i.size := by simp [hq] at hi; omega
    simp [storeVar, sizeOf, typeInfo, hq, Value.cells, hs, this, putIn]
theorem wpList_store_in {P : Program} {ops : Array Oper} {rest : List Oper} {op : Oper} {a : Act} {w : World} {Q : Exit → Act → World → Prop} (hgd : op.guard = none) (ty : TypeId) (x y : Operand) (ho : op.op = .store ty x y)
    (g o : Nat) (cells : Array Value) (hx : a.eval x = .pointer (some ⟨g, o, none⟩)) (hy : a.eval y = .agg cells)
    (t : TypeId) (cur : Array Value) (hg : Blk w g t cur) (hi : (P.info? ty).map (·.size) = some cells.size) (hle : o + cells.size ≤ cur.size) (h1 : ∀ v ∈ cells.toList, v.oneCell' = true)
    (h : wpList P ops Q rest (a.put op.dst undef) (w.setRow g (putIn cur o cells))) : wpList P ops Q (op :: rest) a w := by
  refine wpList_plain hgd fun K hK => ?_
  unfold Oper.wp execOp
  simp only [ho, hx, hy, Instr.storeAt, Instr.sureAddr, Sem.run_bind, Sem.run_pure, Result.andThen_ok, run_storeVar_in w g o t ty cur cells hg hi hle h1]
  exact hK _ _ h
theorem flat_set {α : Type} {cs : α → List Value} {k : Nat} (hk : ∀ a, (cs a).length = k) (y : α) : ∀ (L : List α) (i : Nat), i < L.length → (L.set i y).flatMap cs = (L.flatMap cs).take (i * k) ++ cs y ++ (L.flatMap cs).drop (i * k + k) := by
  intro L
  induction L with
  | nil => intro i h; simp at h
  | cons a r ih =>
    intro i h
    have ha := hk a
    cases i with
    | zero =>
      rw [List.set_cons_zero, List.flatMap_cons, List.flatMap_cons, Nat.zero_mul, List.take_zero, List.nil_append, Nat.zero_add, ← ha, List.drop_left]
    | succ i =>
      have hi : i < r.length := by simpa using h
      rw [List.set_cons_succ, List.flatMap_cons, List.flatMap_cons, ih i hi]
      have e1 : (i + 1) * k = (cs a).length + i * k := by rw [Nat.add_mul, ha]; omega
      have e2 : (i + 1) * k + k = (cs a).length + (i * k + k) := by rw [e1]; omega
      rw [e2, e1, List.take_length_add_append, List.drop_length_add_append]
      simp only [List.append_assoc]
/-- The row behind such a store, item i now y. -/
theorem own_item {α : Type} {cs : α → List Value} {k : Nat} (hk : ∀ a, (cs a).length = k) {w : World} {base n g c i : Nat} {e : TypeId} {L : List α} (h : w.ownsRow base e k (.slice (some ⟨g, 0, none⟩) n c) n (L.flatMap cs)) (hl : L.length = n) (hi : i < n) (y : α) :
    ∃ cur, Blk w g e cur ∧ i * k + (cs y).toArray.size ≤ cur.size ∧ (w.setRow g (putIn cur (i * k) (cs y).toArray)).ownsRow base e k (.slice (some ⟨g, 0, none⟩) n c) n ((L.set i y).flatMap cs) ∧ Kept (fun b => b = g) w (w.setRow g (putIn cur (i * k) (cs y).toArray)) := by
  have hy := hk y
  rcases h.2 with ⟨h0, _⟩ | ⟨g', cap, cur, hv, hb, hg, h1, h2, h3, h4⟩
  · cases h0
  · injection hv with hv1 hv2 hv3
    injection hv1 with hv1
    injection hv1 with hv1 _ _
    subst hv1 hv3
    have hik : i * k + k ≤ n * k := by rw [← Nat.succ_mul]; exact Nat.mul_le_mul_right _ hi
    have hnc : n * k ≤ cur.size := by rw [h3]; exact Nat.mul_le_mul_right _ h1
    have hX : (L.flatMap cs).length = n * k := by rw [flatG_len hk, hl]
    have hsz : (cs y).toArray.size = k := by simpa using hy
    have hcur : cur.toList = L.flatMap cs ++ cur.toList.drop (n * k) := by rw [← h4, List.take_append_drop]
    refine ⟨cur, hg, by rw [hsz]; omega, ⟨?_, .inr ⟨g, c, _, rfl, hb, setRow_heap w g cur _ e (0, 0) hg, h1, h2, ?_, ?_⟩⟩, ?_⟩
    · rw [flatG_len hk, List.length_set, hl]
    · unfold putIn
      rw [List.size_toArray, List.length_append, List.length_append, List.length_take, List.length_drop, hsz, Array.length_toList, Array.length_toList, hsz]
      omega
    · unfold putIn
      rw [flat_set hk y L i (by omega)]
      simp only [List.toList_toArray]
      rw [hsz]
      have e1 : cur.toList.take (i * k) = (L.flatMap cs).take (i * k) := by
        rw [hcur, List.take_append_of_le_length (by omega)]
      have e2 : cur.toList.drop (i * k + k) = (L.flatMap cs).drop (i * k + k) ++ cur.toList.drop (n * k) := by
        have := congrArg (List.drop (i * k + k)) hcur
        rw [this, List.drop_append_of_le_length (by omega)]
      rw [e1, e2, ← List.append_assoc]
      refine (List.take_append_of_le_length ?_).trans (List.take_of_length_le ?_)
      · simp only [List.length_append, List.length_take, List.length_drop, hX, hy]; omega
      · simp only [List.length_append, List.length_take, List.length_drop, hX, hy]; omega
    · exact (Kept.of_grown (only_setRow w g _)).mono (fun j _ hj => by injection hj with hj; exact hj.symm)
end Go.Proofs.Ytpncbggjngamgaa
namespace Go.Proofs.Ytpncbggjngamgaa
set_option linter.unusedVariables false
open Go.RowKit

theorem el_one : El Try.prog 59 114 10 56 := El.mk' Try.underlying59 (z := .agg #[.int .u16 0, .int .u8 0, .int .u8 0, .int .u32 0, .int .u32 0, .int .i32 0, .int .u16 0, .int .u16 0, .slice none 0 0, .int .i64 0]) (by kernel_rfl) rfl (by omega)
theorem flat_drop {α : Type} {cs : α → List Value} {k : Nat} (hk : ∀ a, (cs a).length = k) : ∀ (L : List α) (i : Nat), (L.flatMap cs).drop (i * k) = (L.drop i).flatMap cs := by
  intro L
  induction L with
  | nil => intro i; simp
  | cons a r ih =>
    intro i
    cases i with
    | zero => simp
    | succ i =>
      have e1 : (i + 1) * k = (cs a).length + i * k := by rw [Nat.add_mul, hk a]; omega
      rw [List.flatMap_cons, e1, List.drop_length_add_append, List.drop_succ_cons]
      exact ih i
theorem RfS.tail {base : Nat} {w : World} {g n c i : Nat} {ad : Addr} {most : Int} {xs : List OneE} (q : RfS base w g (.slice (some ad) n c) most xs) (hl : xs.length = n) (hi : i ≤ n) :
    Reads w w.heap.size 10 (some (ad.add (i * 10))) (n - i) ((xs.drop i).flatMap oneL) := by
  have h := q.row
  rw [hl] at h
  have h2 := Reads.cut (Reads.of_own h) (k := i) (cap := c + i + 1) hi (by have := q.shape; obtain ⟨A, n', c', e, _, h1, _⟩ := this; injection e with _ e2 e3; omega)
  rw [if_neg (by omega), flat_drop oneL_len] at h2
  exact h2
theorem info_One : (Try.prog.info? 114).map (·.size) = some 10 := by kernel_rfl
/-- What Put leaves. -/
structure PutR (base : Nat) (w w' : World) (g : Nat) (v : Value) (most : Int) (xs : List OneE) (x : SE) (now : Int) (x' : SE) (v' : Value) (xs' : List OneE) : Prop where
  q : RfS base w' g v' most xs'
  row : PutRow xs xs' ⟨x', now⟩
  h : x'.h = x.h
  B : x'.B = x.B
  n : x'.n = x.n
  ok : x'.ok w.heap.size w'
  k : Kept (fun b => b = g ∨ v.ownBlock = some b) w w'
  vb : v'.ownBlock = v.ownBlock ∨ ∃ b, v'.ownBlock = some b ∧ w.heap.size ≤ b
  room : (rowAt xs x.key).isSome = true ∨ (xs.length : Int) < most
  len : xs'.length = if (rowAt xs x.key).isSome = true then xs.length else xs.length + 1
def PutP (base : Nat) (w w' : World) (g : Nat) (v : Value) (most : Int) (xs : List OneE) (x : SE) (now : Int) (e : Ending) : Prop :=
  (∃ x' v' xs', e = .returned (.int .i64 0) ∧ PutR base w w' g v most xs x now x' v' xs') ∨ (e = .returned (.int .i64 47) ∧ rowAt xs x.key = none ∧ most ≤ (xs.length : Int) ∧ Below w.heap.size w w')
set_option maxRecDepth 100000 in
set_option maxHeartbeats 8000000 in
theorem put11 (base : Nat) (w : World) (g : Nat) (v : Value) (most : Int) (xs : List OneE) (q : RfS base w g v most xs) (hA : AscL xs) (hbs : base ≤ w.heap.size) (hN : xs.length ≤ 4096) (x : SE) (hx : x.rd w) (now : Int) (hn : 0 ≤ now ∧ now ≤ 9223372036854775807) :
    Calls Try.prog 44 #[.pointer (some ⟨g, 0, none⟩), .int .i64 now, x.v] w fun e w' => PutP base w w' g v most xs x now e := by
  obtain ⟨⟨xage, xopts, k1, k2, k3, xseq, xsum, xlen⟩, xA, xn, xc, xB⟩ := x
  obtain ⟨A, n, c, rfl, hl, hc1, hc2⟩ := q.shape
  have hb1 : Below w.heap.size w (w.alloc (.cells #[.int .u16 xage, .int .u8 xopts, .int .u8 k1, .int .u32 k2, .int .u32 k3, .int .i32 xseq, .int .u16 xsum, .int .u16 xlen, .slice xA xn xc] 31)) := (Below.refl _ _).alloc (Nat.le_refl _) _
  have HBx : Hid (Blk (w.alloc (.cells #[.int .u16 xage, .int .u8 xopts, .int .u8 k1, .int .u32 k2, .int .u32 k3, .int .i32 xseq, .int .u16 xsum, .int .u16 xlen, .slice xA xn xc] 31)) w.heap.size 31 #[.int .u16 xage, .int .u8 xopts, .int .u8 k1, .int .u32 k2, .int .u32 k3, .int .i32 xseq, .int .u16 xsum, .int .u16 xlen, .slice xA xn xc]) := Lib.hid (Blk.new _ _ _)
  have HQ := Lib.hid (q.later hb1)
  have HX := Lib.hid (hx.later hb1)
  have HA := Lib.hid hA
  have HL := Lib.hid hl
  have HB1 := Lib.hid hb1
  have HV := Lib.hid (fun i => (fun (h : (Value.slice A n c).ownBlock = some i) => own_ge q.row h))
  have hN2 : n ≤ 4096 := by omega
  have a0 := HBx.out.cell 0; have a1 := HBx.out.cell 1; have a2 := HBx.out.cell 2; have a3 := HBx.out.cell 3; have a4 := HBx.out.cell 4; have a5 := HBx.out.cell 5; have a6 := HBx.out.cell 6; have a7 := HBx.out.cell 7
  simp only [List.getElem?_toArray, List.getElem?_cons_zero, List.getElem?_cons_succ] at a0 a1 a2 a3 a4 a5 a6 a7
  have dn : decide (now < 0) = false := decide_eq_false (by omega)
  clear q hx hA hl hb1 hN
  show Calls Try.prog 44 #[.pointer (some ⟨g, 0, none⟩), .int .i64 now, .agg #[.int .u16 xage, .int .u8 xopts, .int .u8 k1, .int .u32 k2, .int .u32 k3, .int .i32 xseq, .int .u16 xsum, .int .u16 xlen, .slice xA xn xc]] w fun e w' => PutP base w w' g (.slice A n c) most xs (⟨⟨xage, xopts, k1, k2, k3, xseq, xsum, xlen⟩, xA, xn, xc, xB⟩ : SE) now e
  go_enter Try.func44, Try.ntmps44
  go_wp2_with fail
  clear a0 a1 a2 a3 a4 a5 a6 a7 dn
  generalize w.alloc (.cells #[.int .u16 xage, .int .u8 xopts, .int .u8 k1, .int .u32 k2, .int .u32 k3, .int .i32 xseq, .int .u16 xsum, .int .u16 xlen, .slice xA xn xc] 31) = w1 at *
  refine (rkey_hd ⟨xage, xopts, k1, k2, k3, xseq, xsum, xlen⟩ w1).mono ?_
  rintro e w2 ⟨rfl, hb2⟩
  have HQ2 := Lib.hid (HQ.out.later hb2)
  have HX2 := Lib.hid (HX.out.later hb2)
  have HBx2 := Lib.hid (HBx.out.later hb2)
  have HB2 := Lib.hid (below_then HB1.out hb2)
  clear hb2 HQ HX HBx HB1
  have hb3 : Below w2.heap.size w2 (w2.alloc (.cells #[.int .u8 k1, .int .u32 k2, .int .u32 k3] 45)) := (Below.refl _ _).alloc (Nat.le_refl _) _
  have HK3 : Hid (Blk (w2.alloc (.cells #[.int .u8 k1, .int .u32 k2, .int .u32 k3] 45)) w2.heap.size 45 #[.int .u8 k1, .int .u32 k2, .int .u32 k3]) := Lib.hid (Blk.new _ _ _)
  have HQ3 := Lib.hid (HQ2.out.later hb3)
  have HX3 := Lib.hid (HX2.out.later hb3)
  have HBx3 := Lib.hid (HBx2.out.later hb3)
  have HB3 := Lib.hid (below_then HB2.out hb3)
  clear hb3 HQ2 HX2 HBx2
  have b0 := HK3.out.cell 0; have b1 := HK3.out.cell 1; have b2 := HK3.out.cell 2
  simp only [List.getElem?_toArray, List.getElem?_cons_zero, List.getElem?_cons_succ] at b0 b1 b2
  go_wp2_with fail
  clear b0 b1 b2
  generalize w2.alloc (.cells #[.int .u8 k1, .int .u32 k2, .int .u32 k3] 45) = w3 at *
  have HGk : Hid (w.heap.size ≤ w2.heap.size) := Lib.hid HB2.out.size
  generalize w2.heap.size = gk at *
  clear HB2
  refine (find11 base _ g _ most xs HQ3.out (k1, k2, k3)).mono ?_
  rintro e w4 ⟨z, rfl, hz, hb4⟩
  have HQ4 := Lib.hid (HQ3.out.later hb4)
  have HX4 := Lib.hid (HX3.out.later hb4)
  have HBx4 := Lib.hid (HBx3.out.later hb4)
  have HK4 := Lib.hid (HK3.out.later hb4)
  have HB4 := Lib.hid (below_then HB3.out hb4)
  clear hb4 HQ3 HX3 HBx3 HK3 HB3
  rcases rowAt_of hz with ⟨i, y, rfl, hxs, hr⟩ | ⟨rfl, hr⟩
  · clear hz
    have hin : i < n := by have := (List.getElem?_eq_some_iff.1 hxs).1; have := HL.out; omega
    have hinI : (i : Int) < n := by omega
    have HR := Lib.hid (And.intro hxs hr)
    clear hxs hr
    have hrow := HQ4.out.row
    rcases hrow.2 with ⟨_, h0⟩ | ⟨gr, cap, cur, hv, hbg, -⟩
    · exact absurd h0 (by have := HL.out; omega)
    · injection hv with hv1 hv2 hv3
      subst hv1 hv3
      have di : decide (0 ≤ (i : Int)) = true := decide_eq_true (by omega)
      have HBG := Lib.hid hbg
      clear hrow hv2 hbg cur
      go_wp2_with fail
      have hbd : Below w4.heap.size w4 w4.drew := (Below.refl _ _).drew
      have HQ5 := Lib.hid (HQ4.out.later hbd)
      have HX5 := Lib.hid (HX4.out.later hbd)
      have HS : Hid ((fun W : World => Blk W g 61 #[.slice (some ⟨gr, 0, none⟩) n c, .int .i64 most] ∧ Blk W w.heap.size 31 #[.int .u16 xage, .int .u8 xopts, .int .u8 k1, .int .u32 k2, .int .u32 k3, .int .i32 xseq, .int .u16 xsum, .int .u16 xlen, .slice xA xn xc]) w4.drew) := Lib.hid ⟨HQ5.out.blk, HBx4.out.later hbd⟩
      have HB5 := Lib.hid HB4.out.drew
      clear hbd HQ4 HX4 HBx4 HK4 HB4 di
      refine wp_region_s (fun W : World => Blk W g 61 #[.slice (some ⟨gr, 0, none⟩) n c, .int .i64 most] ∧ Blk W w.heap.size 31 #[.int .u16 xage, .int .u8 xopts, .int .u8 k1, .int .u32 k2, .int .u32 k3, .int .i32 xseq, .int .u16 xsum, .int .u16 xlen, .slice xA xn xc]) [(0, true), (1, true), (2, true), (4, true), (7, true), (3, true), (5, true), (6, false), (8, true), (9, true), (10, false)] (by kernel_rfl) (fun _ d _ _ _ h => by cases d <;> exact h) ?_
      simp only [List.map_cons, List.map_nil, nthOp_zero, nthOp_succ]
      generalize w4.drew = w5 at *
      refine wpS_take HS (by kernel_rfl) (by intro W hW; clear hW; go_simp; try with_reducible rfl) ?_
      refine wpS_take HS (by kernel_rfl) (by intro W hW; clear hW; go_simp; try with_reducible rfl) ?_
      refine wpS_take HS (by kernel_rfl) (by intro W hW; clear hW; go_simp; try with_reducible rfl) ?_
      refine wpS_take HS (by kernel_rfl) (by intro W hW; clear hW; go_simp; try with_reducible rfl) ?_
      refine wpS_take HS (by kernel_rfl) (by intro W hW; clear hW; go_simp; try with_reducible rfl) ?_
      refine wpS_take HS (by kernel_rfl) (by intro W hW; have g0 := hW.1.cell 0; simp only [List.getElem?_toArray, List.getElem?_cons_zero, List.getElem?_cons_succ] at g0; clear hW; go_simp; try with_reducible rfl) ?_
      refine wpS_take HS (by kernel_rfl) (fun W hW => exec_load_row rfl rfl hW.2 Try.underlying31 rfl info_state) ?_
      go_simp
      refine wpS_do fun K hK => ?_
      go_wp2_with fail
      refine (copied11 (⟨⟨xage, xopts, k1, k2, k3, xseq, xsum, xlen⟩, xA, xn, xc, xB⟩ : SE) w5 HX5.out).mono ?_
      rintro e w6 ⟨s', rfl, hcp, hb6⟩
      have HCp := Lib.hid hcp
      have HQ6 := Lib.hid (HQ5.out.later hb6)
      have HB6 := Lib.hid (below_then HB5.out hb6)
      have HSZ := Lib.hid (HB5.out.size)
      replace HS : Hid ((fun W : World => Blk W g 61 #[.slice (some ⟨gr, 0, none⟩) n c, .int .i64 most] ∧ Blk W w.heap.size 31 #[.int .u16 xage, .int .u8 xopts, .int .u8 k1, .int .u32 k2, .int .u32 k3, .int .i32 xseq, .int .u16 xsum, .int .u16 xlen, .slice xA xn xc]) w6) := Lib.hid ⟨HS.out.1.later hb6, HS.out.2.later hb6⟩
      clear hcp hb6 HQ5 HX5 HB5
      go_wp2_with fail
      refine hK.out _ _ HS.out ?_
      clear hK K
      refine wpS_take HS (by kernel_rfl) (by intro W hW; clear hW; go_simp; try with_reducible rfl) ?_
      refine wpS_take HS (by kernel_rfl) (by intro W hW; clear hW; go_simp; try with_reducible rfl) ?_
      go_simp
      refine wpS_do fun K hK => ?_
      obtain ⟨cur, hg6, hle, how, hkp⟩ := own_item (i := i) oneL_len (show w6.ownsRow base 114 10 (.slice (some ⟨gr, 0, none⟩) n c) n (xs.flatMap oneL) from by have h := HQ6.out.row; rwa [HL.out] at h) HL.out hin (⟨s', now⟩ : OneE)
      have hgne : g ≠ gr := fun e => by
        have h := own_blk_ne HQ6.out.row HQ6.out.blk (by decide)
        exact h (by rw [e]; rfl)
      have HS7 : Hid ((fun W : World => Blk W g 61 #[.slice (some ⟨gr, 0, none⟩) n c, .int .i64 most] ∧ Blk W w.heap.size 31 #[.int .u16 xage, .int .u8 xopts, .int .u8 k1, .int .u32 k2, .int .u32 k3, .int .i32 xseq, .int .u16 xsum, .int .u16 xlen, .slice xA xn xc]) (w6.setRow gr (putIn cur (i * 10) (oneL ⟨s', now⟩).toArray))) := Lib.hid ⟨HS.out.1.kept hkp hgne, HS.out.2.kept hkp (fun e => by
        have h := own_blk_ne HQ6.out.row HS.out.2 (by decide)
        exact h (by rw [e]; rfl))⟩
      refine wpList_store_in rfl 114 (.tmp 30) (.tmp 29) rfl gr (i * 10) (oneL ⟨s', now⟩).toArray rfl rfl 114 cur hg6 info_One hle (by simpa using oneL_one ⟨s', now⟩) ?_
      have HW := Lib.hid (And.intro how hkp)
      clear how hkp hg6 hle
      generalize w6.setRow gr (putIn cur (i * 10) (oneL ⟨s', now⟩).toArray) = w7 at *
      go_wp2_with fail
      refine hK.out _ _ HS7.out ?_
      clear hK K
      refine wpS_nil ?_
      go_simp
      go_wp2_with fail
      go_ret
      have hg0 : gr < w.heap.size := (HV.out gr rfl).2
      have hyk := rowAt_some HR.out.2
      refine Or.inl ⟨s', .slice (some ⟨gr, 0, none⟩) n c, xs.set i ⟨s', now⟩, rfl, ⟨⟨HS7.out.1, ?_, fun z hz => ?_⟩, ?_, HCp.out.h, HCp.out.B, HCp.out.n, ?_, ?_, .inl rfl, .inl ?_, ?_⟩⟩
      · rw [List.length_set, HL.out]; exact HW.out.1
      · rcases List.mem_or_eq_of_mem_set hz with h1 | h1
        · have h2 := HQ6.out.own z h1
          exact ⟨⟨h2.1.head, own_kept h2.1.body HW.out.2 (fun j hj e => by subst e; exact own_ne h2.1.body HQ6.out.row (by decide) _ hj rfl), h2.1.oct, h2.1.len⟩, h2.2⟩
        · subst h1
          have h2 := HCp.out.ok
          exact ⟨⟨h2.head, own_mono (own_kept h2.body HW.out.2 (fun j hj e => by subst e; exact own_ne h2.body HQ6.out.row (by decide) _ hj rfl)) (Nat.le_trans hbs HSZ.out), h2.oct, h2.len⟩, hn⟩
      · have h := HA.out.set (y := ⟨s', now⟩) HR.out.1 (by rw [hyk.2]; show (s'.h.typ, s'.h.id, s'.h.adv) = _; rw [HCp.out.h])
        exact h
      · have h2 := HCp.out.ok
        exact ⟨h2.head, own_mono (own_kept h2.body HW.out.2 (fun j hj e => by subst e; exact own_ne h2.body HQ6.out.row (by decide) _ hj rfl)) HSZ.out, h2.oct, h2.len⟩
      · exact (Kept.of_new HB6.out (fun b => b = g ∨ (Value.slice (some ⟨gr, 0, none⟩) n c).ownBlock = some b)).trans HW.out.2 (fun j _ e => .inr (by rw [e]; rfl))
      · show (rowAt xs (k1, k2, k3)).isSome = true
        rw [HR.out.2]; rfl
      · rw [List.length_set, if_pos (by show (rowAt xs (k1, k2, k3)).isSome = true; rw [HR.out.2]; rfl)]
  · clear hz
    have HR := Lib.hid hr
    clear hr
    have dm : decide ((0 : Int) ≤ -1) = false := by decide
    go_wp2_with fail
    have hbd : Below w4.heap.size w4 w4.drew := (Below.refl _ _).drew
    have HQ5 := Lib.hid (HQ4.out.later hbd)
    have HX5 := Lib.hid (HX4.out.later hbd)
    have HBx5 := Lib.hid (HBx4.out.later hbd)
    have HK5 := Lib.hid (HK4.out.later hbd)
    have HS : Hid ((fun W : World => Blk W g 61 #[.slice A n c, .int .i64 most]) w4.drew) := Lib.hid HQ5.out.blk
    have HB5 := Lib.hid HB4.out.drew
    clear hbd HQ4 HX4 HBx4 HK4 HB4 dm
    refine wp_region_s (fun W : World => Blk W g 61 #[.slice A n c, .int .i64 most]) [(0, true), (1, true), (2, true), (5, true), (6, true), (7, true), (3, true), (4, true), (8, true), (9, true)] (by kernel_rfl) (fun _ d _ _ _ h => by cases d <;> exact h) ?_
    simp only [List.map_cons, List.map_nil, nthOp_zero, nthOp_succ]
    generalize w4.drew = w5 at *
    refine wpS_take HS (by kernel_rfl) (by intro W hW; have g0 := hW.cell 0; have g1 := hW.cell 1; simp only [List.getElem?_toArray, List.getElem?_cons_zero, List.getElem?_cons_succ] at g0 g1; clear hW; go_simp; try with_reducible rfl) ?_
    refine wpS_take HS (by kernel_rfl) (by intro W hW; have g0 := hW.cell 0; have g1 := hW.cell 1; simp only [List.getElem?_toArray, List.getElem?_cons_zero, List.getElem?_cons_succ] at g0 g1; clear hW; go_simp; try with_reducible rfl) ?_
    refine wpS_take HS (by kernel_rfl) (by intro W hW; have g0 := hW.cell 0; have g1 := hW.cell 1; simp only [List.getElem?_toArray, List.getElem?_cons_zero, List.getElem?_cons_succ] at g0 g1; clear hW; go_simp; try with_reducible rfl) ?_
    refine wpS_take HS (by kernel_rfl) (by intro W hW; have g0 := hW.cell 0; have g1 := hW.cell 1; simp only [List.getElem?_toArray, List.getElem?_cons_zero, List.getElem?_cons_succ] at g0 g1; clear hW; go_simp; try with_reducible rfl) ?_
    refine wpS_take HS (by kernel_rfl) (by intro W hW; have g0 := hW.cell 0; have g1 := hW.cell 1; simp only [List.getElem?_toArray, List.getElem?_cons_zero, List.getElem?_cons_succ] at g0 g1; clear hW; go_simp; try with_reducible rfl) ?_
    refine wpS_take HS (by kernel_rfl) (by intro W hW; have g0 := hW.cell 0; have g1 := hW.cell 1; simp only [List.getElem?_toArray, List.getElem?_cons_zero, List.getElem?_cons_succ] at g0 g1; clear hW; go_simp; try with_reducible rfl) ?_
    refine wpS_take HS (by kernel_rfl) (by intro W hW; have g0 := hW.cell 0; have g1 := hW.cell 1; simp only [List.getElem?_toArray, List.getElem?_cons_zero, List.getElem?_cons_succ] at g0 g1; clear hW; go_simp; try with_reducible rfl) ?_
    refine wpS_take HS (by kernel_rfl) (by intro W hW; have g0 := hW.cell 0; have g1 := hW.cell 1; simp only [List.getElem?_toArray, List.getElem?_cons_zero, List.getElem?_cons_succ] at g0 g1; clear hW; go_simp; try with_reducible rfl) ?_
    refine wpS_take HS (by kernel_rfl) (by intro W hW; have g0 := hW.cell 0; have g1 := hW.cell 1; simp only [List.getElem?_toArray, List.getElem?_cons_zero, List.getElem?_cons_succ] at g0 g1; clear hW; go_simp; try with_reducible rfl) ?_
    refine wpS_take HS (by kernel_rfl) (by intro W hW; have g0 := hW.cell 0; have g1 := hW.cell 1; simp only [List.getElem?_toArray, List.getElem?_cons_zero, List.getElem?_cons_succ] at g0 g1; clear hW; go_simp; try with_reducible rfl) ?_
    refine wpS_nil ?_
    go_simp
    by_cases hfull : most ≤ (n : Int)
    · have df : decide (most ≤ (n : Int)) = true := decide_eq_true hfull
      go_wp2_with fail
      go_ret
      exact Or.inr ⟨rfl, HR.out, by rw [HL.out]; exact hfull, HB5.out⟩
    · have df : decide (most ≤ (n : Int)) = false := decide_eq_false hfull
      go_wp2_with fail
      clear df HS
      go_loopw [9, 10] (fun lv iv wr => ∃ i : Nat, iv = .int .i64 i ∧ i ≤ n ∧ Hid (wr.ownsRow w5.heap.size 114 10 lv i ((xs.take i).flatMap oneL)) ∧ Hid (∀ j x, j < i → xs[j]? = some x → ltK x.s.key (k1, k2, k3) = true) ∧ Hid (Below w5.heap.size w5 wr)) (fun _ iv _ => n - (intOf iv).toNat)
      case atStart => exact ⟨0, rfl, Nat.zero_le _, Lib.hid (World.ownsRow_nil _ _ _ _), Lib.hid fun j x h => by omega, Lib.hid (Below.refl _ _)⟩
      case round =>
        obtain ⟨i, rfl, hi, hrow, hlow, hb⟩ := hrel
        generalize wr = wj at *
        have HQj := Lib.hid (HQ5.out.later hb.out)
        have HKj := Lib.hid (HK5.out.later hb.out)
        by_cases hlt : i < n
        · have hltI : (i : Int) < n := by omega
          obtain ⟨ad, x, hA, hxs, hxa⟩ := HQj.out.at_ hlt HL.out
          subst hA
          have HX := Lib.hid hxs
          have HOx := Lib.hid (HQj.out.own x (List.mem_of_getElem? hxs)).1.head
          go_wp2_with fail
          have hbd : Below wj.heap.size wj wj.drew := (Below.refl _ _).drew
          have HS : Hid ((fun W : World => Blk W g 61 #[.slice (some ad) n c, .int .i64 most] ∧ OneAt W (ad.add (i * 10)) x ∧ Blk W gk 45 #[.int .u8 k1, .int .u32 k2, .int .u32 k3]) wj.drew) := Lib.hid ⟨HQj.out.blk.later hbd, hxa.later hbd, HKj.out.later hbd⟩
          have HBj := Lib.hid hb.out.drew
          have HRj := Lib.hid (own_kept hrow.out (Kept.of_new hbd (fun _ => False)) (fun _ _ h => h))
          clear hbd hxs hxa hb hrow HKj HQj
          refine wp_region_s (fun W : World => Blk W g 61 #[.slice (some ad) n c, .int .i64 most] ∧ OneAt W (ad.add (i * 10)) x ∧ Blk W gk 45 #[.int .u8 k1, .int .u32 k2, .int .u32 k3]) [(0, true), (1, true), (2, true), (3, true), (4, true), (5, true), (6, true), (7, true), (8, true), (9, true), (10, true), (12, true), (11, true), (13, true), (14, true), (15, true), (16, true), (18, true), (17, false), (19, false), (20, true), (21, true)] (by kernel_rfl) (fun _ d _ _ _ h => by cases d <;> exact h) ?_
          simp only [List.map_cons, List.map_nil, nthOp_zero, nthOp_succ]
          generalize wj.drew = w6 at *
          refine wpS_take HS (by kernel_rfl) (by intro W hW; clear hW; go_simp; try with_reducible rfl) ?_
          refine wpS_take HS (by kernel_rfl) (by intro W hW; clear hW; go_simp; try with_reducible rfl) ?_
          refine wpS_take HS (by kernel_rfl) (by intro W hW; clear hW; go_simp; try with_reducible rfl) ?_
          refine wpS_take HS (by kernel_rfl) (by intro W hW; clear hW; go_simp; try with_reducible rfl) ?_
          refine wpS_take HS (by kernel_rfl) (by intro W hW; have g0 := hW.1.cell 0; simp only [List.getElem?_toArray, List.getElem?_cons_zero, List.getElem?_cons_succ] at g0; clear hW; go_simp; try with_reducible rfl) ?_
          refine wpS_take HS (by kernel_rfl) (by intro W hW; have g0 := hW.1.cell 0; simp only [List.getElem?_toArray, List.getElem?_cons_zero, List.getElem?_cons_succ] at g0; clear hW; go_simp; try with_reducible rfl) ?_
          refine wpS_take HS (by kernel_rfl) (by intro W hW; have g0 := hW.1.cell 0; simp only [List.getElem?_toArray, List.getElem?_cons_zero, List.getElem?_cons_succ] at g0; clear hW; go_simp; try with_reducible rfl) ?_
          go_simp
          refine wpS_take HS (by kernel_rfl) (by intro W hW; clear hW; go_simp; try with_reducible rfl) ?_
          refine wpS_take HS (by kernel_rfl) (by intro W hW; clear hW; go_simp; try with_reducible rfl) ?_
          refine wpS_take HS (by kernel_rfl) (by intro W hW; clear hW; go_simp; try with_reducible rfl) ?_
          refine wpS_take HS (by kernel_rfl) (by intro W hW; clear hW; go_simp; try with_reducible rfl) ?_
          refine wpS_take HS (by kernel_rfl) (by intro W hW; clear hW; go_simp; try with_reducible rfl) ?_
          refine wpS_take HS (by kernel_rfl) (by intro W hW; have g0 := hW.1.cell 0; simp only [List.getElem?_toArray, List.getElem?_cons_zero, List.getElem?_cons_succ] at g0; clear hW; go_simp; try with_reducible rfl) ?_
          refine wpS_take HS (by kernel_rfl) (by intro W hW; clear hW; go_simp; try with_reducible rfl) ?_
          refine wpS_take HS (by kernel_rfl) (by intro W hW; clear hW; go_simp; try with_reducible rfl) ?_
          refine wpS_take HS (by kernel_rfl) (by intro W hW; clear hW; go_simp; try with_reducible rfl) ?_
          go_simp
          refine wpS_take HS (by kernel_rfl) (by intro W hW; obtain ⟨q0, q1, q2, q3, q4, q5, q6, q7, q8, q9⟩ := hW.2.1; clear hW; go_simp; try with_reducible rfl) ?_
          refine wpS_take HS (by kernel_rfl) (fun W hW => exec_load_row rfl rfl hW.2.2 Try.underlying45 rfl info_key3) ?_
          go_simp
          refine wpS_do fun K hK => ?_
          go_wp2_with fail
          refine (rkey_hd x.s.h w6).mono ?_
          rintro e w7 ⟨rfl, hb7⟩
          replace HS : Hid ((fun W : World => Blk W g 61 #[.slice (some ad) n c, .int .i64 most] ∧ OneAt W (ad.add (i * 10)) x ∧ Blk W gk 45 #[.int .u8 k1, .int .u32 k2, .int .u32 k3]) w7) := Lib.hid ⟨HS.out.1.later hb7, HS.out.2.1.later hb7, HS.out.2.2.later hb7⟩
          have HR7 := Lib.hid (own_kept HRj.out (Kept.of_new hb7 (fun _ => False)) (fun _ _ h => h))
          have HB7 := Lib.hid (below_then HBj.out hb7)
          clear hb7 HRj HBj
          go_wp2_with fail
          refine hK.out _ _ HS.out ?_
          clear hK K
          go_simp
          refine wpS_do fun K hK => ?_
          go_wp2_with fail
          refine (keys05 (x.s.h.typ, x.s.h.id, x.s.h.adv) (k1, k2, k3) w7 ⟨HOx.out.typ, HOx.out.id, HOx.out.adv⟩ ⟨HX5.out.head.typ, HX5.out.head.id, HX5.out.head.adv⟩).mono ?_
          rintro e w8 ⟨rfl, hb8⟩
          replace HS : Hid ((fun W : World => Blk W g 61 #[.slice (some ad) n c, .int .i64 most] ∧ OneAt W (ad.add (i * 10)) x ∧ Blk W gk 45 #[.int .u8 k1, .int .u32 k2, .int .u32 k3]) w8) := Lib.hid ⟨HS.out.1.later hb8, HS.out.2.1.later hb8, HS.out.2.2.later hb8⟩
          have HR8 := Lib.hid (own_kept HR7.out (Kept.of_new hb8 (fun _ => False)) (fun _ _ h => h))
          have HB8 := Lib.hid (below_then HB7.out hb8)
          clear hb8 HR7 HB7
          go_wp2_with fail
          refine hK.out _ _ HS.out ?_
          clear hK K
          refine wpS_take HS (by kernel_rfl) (by intro W hW; clear hW; go_simp; try with_reducible rfl) ?_
          rw [cmpK_lt]
          refine wpS_take HS (by kernel_rfl) (by intro W hW; clear hW; go_simp; try with_reducible rfl) ?_
          refine wpS_nil ?_
          go_simp
          by_cases hlk : ltK (x.s.h.typ, x.s.h.id, x.s.h.adv) (k1, k2, k3) = true
          · rw [hlk]
            have HLk := Lib.hid hlk
            clear hlk
            have HQ8 := Lib.hid (HQ5.out.later HB8.out)
            have g0 := HQ8.out.blk.cell 0
            simp only [List.getElem?_toArray, List.getElem?_cons_zero, List.getElem?_cons_succ] at g0
            obtain ⟨q0, q1, q2, q3, q4, q5, q6, q7, q8, q9⟩ := HS.out.2.1
            have HXr : Hid (Reads (w8.alloc (.cells #[.int .u16 x.s.h.age, .int .u8 x.s.h.opts, .int .u8 x.s.h.typ, .int .u32 x.s.h.id, .int .u32 x.s.h.adv, .int .i32 x.s.h.seq, .int .u16 x.s.h.sum, .int .u16 x.s.h.len, .slice x.s.A x.s.n x.s.c, .int .i64 x.at_] 114)) (w8.heap.size + 1) 10 (some ⟨w8.heap.size, 0, none⟩) 1 (oneL x)) :=
              Lib.hid ⟨rfl, fun _ => ⟨_, rfl, Nat.lt_succ_self _, fun j u hu => by rw [add_none, Nat.zero_add, (Blk.new w8 114 #[.int .u16 x.s.h.age, .int .u8 x.s.h.opts, .int .u8 x.s.h.typ, .int .u32 x.s.h.id, .int .u32 x.s.h.adv, .int .i32 x.s.h.seq, .int .u16 x.s.h.sum, .int .u16 x.s.h.len, .slice x.s.A x.s.n x.s.c, .int .i64 x.at_]).cell]; simpa [oneL] using hu⟩⟩
            have HR9 := Lib.hid (HR8.out.alloc (.cells #[.int .u16 x.s.h.age, .int .u8 x.s.h.opts, .int .u8 x.s.h.typ, .int .u32 x.s.h.id, .int .u32 x.s.h.adv, .int .i32 x.s.h.seq, .int .u16 x.s.h.sum, .int .u16 x.s.h.len, .slice x.s.A x.s.n x.s.c, .int .i64 x.at_] 114))
            have hb9 : Below w8.heap.size w8 (w8.alloc (.cells #[.int .u16 x.s.h.age, .int .u8 x.s.h.opts, .int .u8 x.s.h.typ, .int .u32 x.s.h.id, .int .u32 x.s.h.adv, .int .i32 x.s.h.seq, .int .u16 x.s.h.sum, .int .u16 x.s.h.len, .slice x.s.A x.s.n x.s.c, .int .i64 x.at_] 114)) := (Below.refl _ _).alloc (Nat.le_refl _) _
            have HB9 := Lib.hid (below_then HB8.out hb9)
            have hsz : w5.heap.size ≤ w8.heap.size := HB8.out.size
            clear hb9 HR8 HS
            go_wp2_with (at_builtin; go_must (refine wpList_app el_one rfl (.tmp 63) (.tmp 71) rfl HR9.out rfl HXr.out rfl (oneL_one _) (by simp only [maxLen]; omega) (by omega) (by rw [World.size_alloc]; omega) ?_); intro v' w' ho' hb' hg' _; have H10 := Lib.hid (And.intro ho' (And.intro hb' hg')); clear ho' hb' hg')
            go_roundw
            case rel =>
              refine ⟨i + 1, by go_num, by omega, Lib.hid ?_, Lib.hid fun j z hj hz => ?_, Lib.hid (HB9.out.trans H10.out.2.1)⟩
              · have h := H10.out.1
                rw [take_one HX.out, List.flatMap_append]
                simpa using h
              · by_cases hji : j < i
                · exact hlow.out j z hji hz
                · obtain rfl : j = i := by omega
                  rw [HX.out] at hz
                  injection hz with hz
                  subst hz
                  exact HLk.out
            case measure => simp [intOf]; omega
          · rw [Bool.not_eq_true] at hlk
            rw [hlk]
            have HST : Hid (∀ z, xs[i]? = some z → ltK z.s.key (k1, k2, k3) = false) := Lib.hid fun z hz => by
              rw [HX.out] at hz
              injection hz with hz
              subst hz
              exact hlk
            clear hlk HS
            have HQz := Lib.hid (HQ5.out.later HB8.out)
            have HXz := Lib.hid (HX5.out.later HB8.out)
            have HBz := Lib.hid (HBx5.out.later HB8.out)
            have c0 := HBz.out.cell 0; have c1 := HBz.out.cell 1; have c2 := HBz.out.cell 2; have c3 := HBz.out.cell 3; have c4 := HBz.out.cell 4; have c5 := HBz.out.cell 5; have c6 := HBz.out.cell 6; have c7 := HBz.out.cell 7; have c8 := HBz.out.cell 8
            simp only [List.getElem?_toArray, List.getElem?_cons_zero, List.getElem?_cons_succ] at c0 c1 c2 c3 c4 c5 c6 c7 c8
            go_wp2_with fail
            clear c0 c1 c2 c3 c4 c5 c6 c7 c8
            refine (copied11 (⟨⟨xage, xopts, k1, k2, k3, xseq, xsum, xlen⟩, xA, xn, xc, xB⟩ : SE) w8 HXz.out).mono ?_
            rintro e w9 ⟨s', rfl, hcp, hb9⟩
            have HCp := Lib.hid hcp
            have HR9 := Lib.hid (own_kept HR8.out (Kept.of_new hb9 (fun _ => False)) (fun _ _ h => h))
            have HB9 := Lib.hid (below_then HB8.out hb9)
            have hsz8 : w5.heap.size ≤ w8.heap.size := HB8.out.size
            clear hcp hb9 HR8 HQz HXz HBz
            have hb10 : Below w9.heap.size w9 (w9.alloc (.cells #[.int .u16 s'.h.age, .int .u8 s'.h.opts, .int .u8 s'.h.typ, .int .u32 s'.h.id, .int .u32 s'.h.adv, .int .i32 s'.h.seq, .int .u16 s'.h.sum, .int .u16 s'.h.len, .slice s'.A s'.n s'.c, .int .i64 now] 114)) := (Below.refl _ _).alloc (Nat.le_refl _) _
            have HXr : Hid (Reads (w9.alloc (.cells #[.int .u16 s'.h.age, .int .u8 s'.h.opts, .int .u8 s'.h.typ, .int .u32 s'.h.id, .int .u32 s'.h.adv, .int .i32 s'.h.seq, .int .u16 s'.h.sum, .int .u16 s'.h.len, .slice s'.A s'.n s'.c, .int .i64 now] 114)) (w9.heap.size + 1) 10 (some ⟨w9.heap.size, 0, none⟩) 1 (oneL ⟨s', now⟩)) :=
              Lib.hid ⟨rfl, fun _ => ⟨_, rfl, Nat.lt_succ_self _, fun j u hu => by rw [add_none, Nat.zero_add, (Blk.new w9 114 #[.int .u16 s'.h.age, .int .u8 s'.h.opts, .int .u8 s'.h.typ, .int .u32 s'.h.id, .int .u32 s'.h.adv, .int .i32 s'.h.seq, .int .u16 s'.h.sum, .int .u16 s'.h.len, .slice s'.A s'.n s'.c, .int .i64 now]).cell]; simpa [oneL] using hu⟩⟩
            have HR10 := Lib.hid (HR9.out.alloc (.cells #[.int .u16 s'.h.age, .int .u8 s'.h.opts, .int .u8 s'.h.typ, .int .u32 s'.h.id, .int .u32 s'.h.adv, .int .i32 s'.h.seq, .int .u16 s'.h.sum, .int .u16 s'.h.len, .slice s'.A s'.n s'.c, .int .i64 now] 114))
            have HO10 := Lib.hid (HCp.out.ok.later hb10)
            have HB10 := Lib.hid (below_then HB9.out hb10)
            have hsz9 : w5.heap.size ≤ w9.heap.size := HB9.out.size
            clear hb10 HR9 HB9
            go_wp2_with (first | (at_builtin; refine wpList_app el_one rfl (.tmp 75) (.tmp 80) rfl HR10.out rfl HXr.out rfl (oneL_one _) (by simp only [maxLen]; omega) (by omega) (by rw [World.size_alloc]; omega) ?_; intro v1 w11 ho11 hb11 hg11 _; have HB11 := Lib.hid (HB10.out.trans hb11); have HR11 := Lib.hid ho11; have HO11 := Lib.hid (HO10.out.grown HR10.out (by decide) hg11); clear ho11 hb11 hg11 HXr HR10 HO10 HB10; have HQ11 := Lib.hid (HQ5.out.later HB11.out); have g0 := HQ11.out.blk.cell 0; simp only [List.getElem?_toArray, List.getElem?_cons_zero, List.getElem?_cons_succ] at g0; have hinc : (i : Int) ≤ n := (by omega); have HRd := Lib.hid (HQ11.out.tail (i := i) HL.out hi)) | (at_builtin; go_must (refine wpList_app el_one rfl (.tmp 82) (.tmp 88) rfl HR11.out rfl HRd.out rfl (flatG_one oneL_one _) (by simp only [maxLen]; omega) (by omega) (by have := HB11.out.size; omega) ?_); intro v2 w12 ho12 hb12 hg12 _; obtain ⟨A2, c2, rfl, -⟩ := (OwnW.of_own ho12).shape; have HB12 := Lib.hid (HB11.out.trans hb12); have HR12 := Lib.hid ho12; have HO12 := Lib.hid (HO11.out.grown HR11.out (by decide) hg12); clear ho12 hb12 hg12 HRd HR11 HO11 HB11 HQ11 g0; have HQ12 := Lib.hid (HQ5.out.later HB12.out); have g0 := HQ12.out.blk.cell 0; have f0 := HQ12.out.blk.frozen 0; simp only [List.getElem?_toArray, List.getElem?_cons_zero, List.getElem?_cons_succ] at g0))
            all_goals
              go_ret
              have hck : s'.key = (k1, k2, k3) := by show (s'.h.typ, s'.h.id, s'.h.adv) = _; rw [HCp.out.h]
              have hno : ∀ z ∈ xs, z.s.key ≠ (k1, k2, k3) := fun z hz e => by
                have h := HR.out
                unfold rowAt at h
                rw [List.find?_eq_none] at h
                exact h z hz (decide_eq_true e)
              have hbase : base ≤ w5.heap.size := Nat.le_trans hbs HB5.out.size
              have hins : AscL (xs.take i ++ [(⟨s', now⟩ : OneE)] ++ xs.drop i) ∧ ∀ k, rowAt (xs.take i ++ [(⟨s', now⟩ : OneE)] ++ xs.drop i) k = if k = s'.key then some (⟨s', now⟩ : OneE) else rowAt xs k :=
                HA.out.ins (y := ⟨s', now⟩) (fun j x hj hx => (by show ltK x.s.key s'.key = true; rw [hck]; exact hlow.out j x hj hx)) (fun x hx => (by show ltK x.s.key s'.key = false; rw [hck]; exact HST.out x hx)) (fun x hx => (by show x.s.key ≠ s'.key; rw [hck]; exact hno x hx))
              have hlen : (xs.take i ++ [(⟨s', now⟩ : OneE)] ++ xs.drop i).length = i + 1 + (n - i) := by
                rw [List.length_append, List.length_append, List.length_take, List.length_drop, List.length_singleton, HL.out, Nat.min_eq_left hi]
              refine Or.inl ⟨s', .slice A2 (i + 1 + (n - i)) c2, xs.take i ++ [(⟨s', now⟩ : OneE)] ++ xs.drop i, rfl, ⟨⟨HQ12.out.blk.set_ 0 _, ?_, fun z hz => ?_⟩, hins, HCp.out.h, HCp.out.B, HCp.out.n, ?_, ?_, ?_, .inr (by rw [HL.out]; omega), ?_⟩⟩
              · rw [hlen, List.flatMap_append, List.flatMap_append, List.flatMap_singleton]
                exact own_mono (own_cells HR12.out HQ12.out.blk (by decide) 0 _) hbase
              · have hz2 : z ∈ xs ∨ z = ⟨s', now⟩ := by
                  rcases List.mem_append.1 hz with hz | hz
                  · rcases List.mem_append.1 hz with hz | hz
                    · exact .inl (List.mem_of_mem_take hz)
                    · exact .inr (List.mem_singleton.1 hz)
                  · exact .inl (List.mem_of_mem_drop hz)
                rcases hz2 with h1 | h1
                · have h2 := HQ12.out.own z h1
                  exact ⟨⟨h2.1.head, own_cells h2.1.body HQ12.out.blk (by decide) 0 _, h2.1.oct, h2.1.len⟩, h2.2⟩
                · subst h1
                  exact ⟨⟨HO12.out.head, own_mono (own_cells HO12.out.body HQ12.out.blk (by decide) 0 _) (Nat.le_trans hbase hsz8), HO12.out.oct, HO12.out.len⟩, hn⟩
              · exact ⟨HO12.out.head, own_mono (own_cells HO12.out.body HQ12.out.blk (by decide) 0 _) (Nat.le_trans HB5.out.size hsz8), HO12.out.oct, HO12.out.len⟩
              · exact (Kept.of_new (below_then HB5.out HB12.out) (fun b => b = g ∨ _)).setCell (p := ⟨g, 0, none⟩) (fun _ => .inl rfl) _
              · right
                rcases HR12.out.2 with ⟨_, h0⟩ | ⟨gg, cap, cur, hv, hgb, _⟩
                · omega
                · exact ⟨gg, by rw [hv]; rfl, Nat.le_trans HB5.out.size hgb⟩
              · rw [hlen, if_neg (by show ¬ (rowAt xs (k1, k2, k3)).isSome = true; rw [HR.out]; simp), HL.out]
                omega
        · have dlt : decide ((i : Int) < n) = false := decide_eq_false (by omega)
          have hz : ∀ z, xs[i]? = some z → ltK z.s.key (k1, k2, k3) = false := fun z hz => by
            have := (List.getElem?_eq_some_iff.1 hz).1
            have := HL.out
            omega
          have HST := Lib.hid hz
          clear hz
          go_wp2_with fail
          have hbd : Below wj.heap.size wj wj.drew := (Below.refl _ _).drew
          have HS : Hid ((fun W : World => Blk W g 61 #[.slice A n c, .int .i64 most]) wj.drew) := Lib.hid (HQj.out.blk.later hbd)
          have HB8 := Lib.hid hb.out.drew
          have HR8 := Lib.hid (own_kept hrow.out (Kept.of_new hbd (fun _ => False)) (fun _ _ h => h))
          clear hbd hb hrow HKj HQj
          refine wp_region_s (fun W : World => Blk W g 61 #[.slice A n c, .int .i64 most]) [(0, true), (1, true), (2, true), (3, true), (4, true), (5, true), (6, true), (7, true), (8, true), (9, true), (10, true), (12, true), (11, true), (13, true), (14, true), (15, true), (16, true), (18, true), (17, false), (19, false), (20, true), (21, true)] (by kernel_rfl) (fun _ d _ _ _ h => by cases d <;> exact h) ?_
          simp only [List.map_cons, List.map_nil, nthOp_zero, nthOp_succ]
          generalize wj.drew = w8 at *
          refine wpS_take HS (by kernel_rfl) (by intro W hW; clear hW; go_simp; try with_reducible rfl) ?_
          refine wpS_take HS (by kernel_rfl) (by intro W hW; clear hW; go_simp; try with_reducible rfl) ?_
          refine wpS_take HS (by kernel_rfl) (by intro W hW; clear hW; go_simp; try with_reducible rfl) ?_
          refine wpS_take HS (by kernel_rfl) (by intro W hW; clear hW; go_simp; try with_reducible rfl) ?_
          refine wpS_take HS (by kernel_rfl) (by intro W hW; have g0 := hW.cell 0; have g1 := hW.cell 1; simp only [List.getElem?_toArray, List.getElem?_cons_zero, List.getElem?_cons_succ] at g0 g1; clear hW; go_simp; try with_reducible rfl) ?_
          refine wpS_take HS (by kernel_rfl) (by intro W hW; have g0 := hW.cell 0; have g1 := hW.cell 1; simp only [List.getElem?_toArray, List.getElem?_cons_zero, List.getElem?_cons_succ] at g0 g1; clear hW; go_simp; try with_reducible rfl) ?_
          refine wpS_take HS (by kernel_rfl) (by intro W hW; have g0 := hW.cell 0; have g1 := hW.cell 1; simp only [List.getElem?_toArray, List.getElem?_cons_zero, List.getElem?_cons_succ] at g0 g1; clear hW; go_simp; try with_reducible rfl) ?_
          go_simp
          refine wpS_take HS (by kernel_rfl) (by intro W hW; clear hW; go_simp; try with_reducible rfl) ?_
          refine wpS_skip HS (by kernel_rfl) ?_
          refine wpS_skip HS (by kernel_rfl) ?_
          refine wpS_skip HS (by kernel_rfl) ?_
          refine wpS_skip HS (by kernel_rfl) ?_
          refine wpS_skip HS (by kernel_rfl) ?_
          refine wpS_skip HS (by kernel_rfl) ?_
          refine wpS_skip HS (by kernel_rfl) ?_
          refine wpS_skip HS (by kernel_rfl) ?_
          refine wpS_skip HS (by kernel_rfl) ?_
          refine wpS_skip HS (by kernel_rfl) ?_
          go_simp
          refine wpS_do fun K hK => ?_
          go_wp2_with fail
          refine hK.out _ _ HS.out ?_
          clear hK K
          go_simp
          refine wpS_do fun K hK => ?_
          go_wp2_with fail
          refine hK.out _ _ HS.out ?_
          clear hK K
          go_simp
          refine wpS_skip HS (by kernel_rfl) ?_
          refine wpS_take HS (by kernel_rfl) (by intro W hW; clear hW; go_simp; try with_reducible rfl) ?_
          refine wpS_nil ?_
          go_simp
          clear HS
          have HQz := Lib.hid (HQ5.out.later HB8.out)
          have HXz := Lib.hid (HX5.out.later HB8.out)
          have HBz := Lib.hid (HBx5.out.later HB8.out)
          have c0 := HBz.out.cell 0; have c1 := HBz.out.cell 1; have c2 := HBz.out.cell 2; have c3 := HBz.out.cell 3; have c4 := HBz.out.cell 4; have c5 := HBz.out.cell 5; have c6 := HBz.out.cell 6; have c7 := HBz.out.cell 7; have c8 := HBz.out.cell 8
          simp only [List.getElem?_toArray, List.getElem?_cons_zero, List.getElem?_cons_succ] at c0 c1 c2 c3 c4 c5 c6 c7 c8
          go_wp2_with fail
          clear c0 c1 c2 c3 c4 c5 c6 c7 c8
          refine (copied11 (⟨⟨xage, xopts, k1, k2, k3, xseq, xsum, xlen⟩, xA, xn, xc, xB⟩ : SE) w8 HXz.out).mono ?_
          rintro e w9 ⟨s', rfl, hcp, hb9⟩
          have HCp := Lib.hid hcp
          have HR9 := Lib.hid (own_kept HR8.out (Kept.of_new hb9 (fun _ => False)) (fun _ _ h => h))
          have HB9 := Lib.hid (below_then HB8.out hb9)
          have hsz8 : w5.heap.size ≤ w8.heap.size := HB8.out.size
          clear hcp hb9 HR8 HQz HXz HBz
          have hb10 : Below w9.heap.size w9 (w9.alloc (.cells #[.int .u16 s'.h.age, .int .u8 s'.h.opts, .int .u8 s'.h.typ, .int .u32 s'.h.id, .int .u32 s'.h.adv, .int .i32 s'.h.seq, .int .u16 s'.h.sum, .int .u16 s'.h.len, .slice s'.A s'.n s'.c, .int .i64 now] 114)) := (Below.refl _ _).alloc (Nat.le_refl _) _
          have HXr : Hid (Reads (w9.alloc (.cells #[.int .u16 s'.h.age, .int .u8 s'.h.opts, .int .u8 s'.h.typ, .int .u32 s'.h.id, .int .u32 s'.h.adv, .int .i32 s'.h.seq, .int .u16 s'.h.sum, .int .u16 s'.h.len, .slice s'.A s'.n s'.c, .int .i64 now] 114)) (w9.heap.size + 1) 10 (some ⟨w9.heap.size, 0, none⟩) 1 (oneL ⟨s', now⟩)) :=
            Lib.hid ⟨rfl, fun _ => ⟨_, rfl, Nat.lt_succ_self _, fun j u hu => by rw [add_none, Nat.zero_add, (Blk.new w9 114 #[.int .u16 s'.h.age, .int .u8 s'.h.opts, .int .u8 s'.h.typ, .int .u32 s'.h.id, .int .u32 s'.h.adv, .int .i32 s'.h.seq, .int .u16 s'.h.sum, .int .u16 s'.h.len, .slice s'.A s'.n s'.c, .int .i64 now]).cell]; simpa [oneL] using hu⟩⟩
          have HR10 := Lib.hid (HR9.out.alloc (.cells #[.int .u16 s'.h.age, .int .u8 s'.h.opts, .int .u8 s'.h.typ, .int .u32 s'.h.id, .int .u32 s'.h.adv, .int .i32 s'.h.seq, .int .u16 s'.h.sum, .int .u16 s'.h.len, .slice s'.A s'.n s'.c, .int .i64 now] 114))
          have HO10 := Lib.hid (HCp.out.ok.later hb10)
          have HB10 := Lib.hid (below_then HB9.out hb10)
          have hsz9 : w5.heap.size ≤ w9.heap.size := HB9.out.size
          clear hb10 HR9 HB9
          go_wp2_with (first | (at_builtin; refine wpList_app el_one rfl (.tmp 75) (.tmp 80) rfl HR10.out rfl HXr.out rfl (oneL_one _) (by simp only [maxLen]; omega) (by omega) (by rw [World.size_alloc]; omega) ?_; intro v1 w11 ho11 hb11 hg11 _; have HB11 := Lib.hid (HB10.out.trans hb11); have HR11 := Lib.hid ho11; have HO11 := Lib.hid (HO10.out.grown HR10.out (by decide) hg11); clear ho11 hb11 hg11 HXr HR10 HO10 HB10; have HQ11 := Lib.hid (HQ5.out.later HB11.out); have g0 := HQ11.out.blk.cell 0; simp only [List.getElem?_toArray, List.getElem?_cons_zero, List.getElem?_cons_succ] at g0; have hinc : (i : Int) ≤ n := (by omega); skip) | (at_builtin; go_must (refine wpList_app el_one rfl (.tmp 82) (.tmp 88) rfl HR11.out rfl (show Reads w11 0 10 _ (n - i) ((xs.drop i).flatMap oneL) from ⟨by rw [flatG_len oneL_len, List.length_drop, HL.out], fun h => absurd h (by omega)⟩) rfl (flatG_one oneL_one _) (by simp only [maxLen]; omega) (by omega) (by have := HB11.out.size; omega) ?_); intro v2 w12 ho12 hb12 hg12 _; obtain ⟨A2, c2, rfl, -⟩ := (OwnW.of_own ho12).shape; have HB12 := Lib.hid (HB11.out.trans hb12); have HR12 := Lib.hid ho12; have HO12 := Lib.hid (HO11.out.grown HR11.out (by decide) hg12); clear ho12 hb12 hg12 HR11 HO11 HB11 HQ11 g0; have HQ12 := Lib.hid (HQ5.out.later HB12.out); have g0 := HQ12.out.blk.cell 0; have f0 := HQ12.out.blk.frozen 0; simp only [List.getElem?_toArray, List.getElem?_cons_zero, List.getElem?_cons_succ] at g0))
          all_goals
            go_ret
            have hck : s'.key = (k1, k2, k3) := by show (s'.h.typ, s'.h.id, s'.h.adv) = _; rw [HCp.out.h]
            have hno : ∀ z ∈ xs, z.s.key ≠ (k1, k2, k3) := fun z hz e => by
              have h := HR.out
              unfold rowAt at h
              rw [List.find?_eq_none] at h
              exact h z hz (decide_eq_true e)
            have hbase : base ≤ w5.heap.size := Nat.le_trans hbs HB5.out.size
            have hins : AscL (xs.take i ++ [(⟨s', now⟩ : OneE)] ++ xs.drop i) ∧ ∀ k, rowAt (xs.take i ++ [(⟨s', now⟩ : OneE)] ++ xs.drop i) k = if k = s'.key then some (⟨s', now⟩ : OneE) else rowAt xs k :=
              HA.out.ins (y := ⟨s', now⟩) (fun j x hj hx => (by show ltK x.s.key s'.key = true; rw [hck]; exact hlow.out j x hj hx)) (fun x hx => (by show ltK x.s.key s'.key = false; rw [hck]; exact HST.out x hx)) (fun x hx => (by show x.s.key ≠ s'.key; rw [hck]; exact hno x hx))
            have hlen : (xs.take i ++ [(⟨s', now⟩ : OneE)] ++ xs.drop i).length = i + 1 + (n - i) := by
              rw [List.length_append, List.length_append, List.length_take, List.length_drop, List.length_singleton, HL.out, Nat.min_eq_left hi]
            refine Or.inl ⟨s', .slice A2 (i + 1 + (n - i)) c2, xs.take i ++ [(⟨s', now⟩ : OneE)] ++ xs.drop i, rfl, ⟨⟨HQ12.out.blk.set_ 0 _, ?_, fun z hz => ?_⟩, hins, HCp.out.h, HCp.out.B, HCp.out.n, ?_, ?_, ?_, .inr (by rw [HL.out]; omega), ?_⟩⟩
            · rw [hlen, List.flatMap_append, List.flatMap_append, List.flatMap_singleton]
              exact own_mono (own_cells HR12.out HQ12.out.blk (by decide) 0 _) hbase
            · have hz2 : z ∈ xs ∨ z = ⟨s', now⟩ := by
                rcases List.mem_append.1 hz with hz | hz
                · rcases List.mem_append.1 hz with hz | hz
                  · exact .inl (List.mem_of_mem_take hz)
                  · exact .inr (List.mem_singleton.1 hz)
                · exact .inl (List.mem_of_mem_drop hz)
              rcases hz2 with h1 | h1
              · have h2 := HQ12.out.own z h1
                exact ⟨⟨h2.1.head, own_cells h2.1.body HQ12.out.blk (by decide) 0 _, h2.1.oct, h2.1.len⟩, h2.2⟩
              · subst h1
                exact ⟨⟨HO12.out.head, own_mono (own_cells HO12.out.body HQ12.out.blk (by decide) 0 _) (Nat.le_trans hbase hsz8), HO12.out.oct, HO12.out.len⟩, hn⟩
            · exact ⟨HO12.out.head, own_mono (own_cells HO12.out.body HQ12.out.blk (by decide) 0 _) (Nat.le_trans HB5.out.size hsz8), HO12.out.oct, HO12.out.len⟩
            · exact (Kept.of_new (below_then HB5.out HB12.out) (fun b => b = g ∨ _)).setCell (p := ⟨g, 0, none⟩) (fun _ => .inl rfl) _
            · right
              rcases HR12.out.2 with ⟨_, h0⟩ | ⟨gg, cap, cur, hv, hgb, _⟩
              · omega
              · exact ⟨gg, by rw [hv]; rfl, Nat.le_trans HB5.out.size hgb⟩
            · rw [hlen, if_neg (by show ¬ (rowAt xs (k1, k2, k3)).isSome = true; rw [HR.out]; simp), HL.out]
              omega
end Go.Proofs.Ytpncbggjngamgaa
