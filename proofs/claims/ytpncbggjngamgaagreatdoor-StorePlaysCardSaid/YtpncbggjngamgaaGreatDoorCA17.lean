/-
  StorePlays' walk.
  What the row's cell 'laid' lists: three tables, of which the walk needs nothing.
-/
import Derived.Test.YtpncbggjngamgaaGreatDoorCA12
import Derived.Test.YtpncbggjngamgaaGreatDoorCA16
import Derived.Test.YtpncbggjngamgaaGreatDoorRows
import Derived.Stop.LaidErr
import Derived.LaidMore
import Derived.Test.YtpncbggjngamgaaGreatDoorCA02
namespace Go.Proofs.YtpncbggjngamgaaGreatDoor
set_option linter.unusedVariables false
open Go.RowKit

theorem stnew_bad (m : Int) (w : World) (h : m < 1 ∨ 4096 < m) : Calls Tryz.prog 6 #[.int .i64 m] w fun e w' => e = .returned (.pointer none) ∧ w = w' := by
  by_cases h1 : m < 1
  · have d1 : decide (m < 1) = true := decide_eq_true h1
    go_enter Tryz.func6, Tryz.ntmps6
    go_wp2
    go_ret
    exact ⟨rfl, rfl⟩
  · have d1 : decide (m < 1) = false := decide_eq_false h1
    have d2 : decide (4096 < m) = true := decide_eq_true (by omega)
    go_enter Tryz.func6, Tryz.ntmps6
    go_wp2
    go_ret
    exact ⟨rfl, rfl⟩
section
variable {base : Nat} {w w' : World} {g bm : Nat} {most : Int} {f : Ky3 → Option OneE} {N gd : Nat} {v : Value} {xs : List OneE} {gb n0 n1 : Nat} {G G' : Nat → Sl} {L L' : Nat → List Sl}
theorem Dj.more (d : Dj f xs (L 0)) (u : BagUp n0 n1 G G' L L') (h1 : ∀ k x, f k = some x → ∀ b, x.s.b.ownBlock = some b → b < n0) (h2 : ∀ x ∈ xs, ∀ b, x.s.b.ownBlock = some b → b < n0) : Dj f xs (L' 0) := by
  intro s hs b hb
  rcases u.mem 0 s hs with h | h
  · exact d s h b hb
  · have h3 := h b hb
    exact ⟨fun k x hx e => by have := h1 k x hx b e; omega, fun x hx e => by have := h2 x hx b e; omega⟩
/-- The stores stand while the bag's rows are marked. -/
theorem PairS.rows (p : PairS base w g bm most f N gd v xs) (hb : BagN w base gb G L) (d : Dj f xs (L 0)) (k : Kept (RowsF L [0, 7, 8, 14]) w w') : PairS base w' g bm most f N gd v xs := by
  have far : ∀ {gg : Nat} {t : TypeId} {cs : Array Value}, Blk w gg t cs → (∀ j, j < 19 → bel j ≠ t) → ¬ RowsF L [0, 7, 8, 14] gg := fun hB hne hr => by
    obtain ⟨i, hi, s, hs, hsc⟩ := hr
    have hi19 : i < 19 := by simp at hi; omega
    obtain ⟨ys, hy⟩ := hb.has i hi19 s hs
    exact own_blk_ne hy hB (hne i hi19) hsc
  refine p.kept k (far p.q.blk bel_st) (fun hr => ?_) (far p.r.blk bel_rst) (fun b hbv hr => ?_) (fun k' x hx b hxb hr => ?_) (fun x hx b hxb hr => ?_)
  · obtain ⟨i, hi, s, hs, hsc⟩ := hr
    have hi19 : i < 19 := by simp at hi; omega
    obtain ⟨ys, hy⟩ := hb.has i hi19 s hs
    exact own_ne_mapF hy p.q.map bm hsc rfl
  · obtain ⟨i, hi, s, hs, hsc⟩ := hr
    have hi19 : i < 19 := by simp at hi; omega
    obtain ⟨ys, hy⟩ := hb.has i hi19 s hs
    exact own_ne hy p.r.row (bel_one i hi19) b hsc hbv
  · obtain ⟨i, hi, s, hs, hsc⟩ := hr
    have hi19 : i < 19 := by simp at hi; omega
    by_cases h0 : i = 0
    · subst h0
      exact (d s hs b hsc).1 k' x hx hxb
    · obtain ⟨ys, hy⟩ := hb.has i hi19 s hs
      exact own_ne hy (p.own k' x hx).body (bel_u8 i hi19 h0) b hsc hxb
  · obtain ⟨i, hi, s, hs, hsc⟩ := hr
    have hi19 : i < 19 := by simp at hi; omega
    by_cases h0 : i = 0
    · subst h0
      exact (d s hs b hsc).2 x hx hxb
    · obtain ⟨ys, hy⟩ := hb.has i hi19 s hs
      exact own_ne hy (p.r.own x hx).1.body (bel_u8 i hi19 h0) b hsc hxb
theorem RowsF.ge (hb : BagN w base gb G L) {b : Nat} (hr : RowsF L [0, 7, 8, 14] b) : base ≤ b := by
  obtain ⟨i, hi, s, hs, hsc⟩ := hr
  have hi19 : i < 19 := by simp at hi; omega
  obtain ⟨ys, hy⟩ := hb.has i hi19 s hs
  exact (own_ge hy hsc).1
end
structure PlayR (w : World) (g bm : Nat) (most : Int) (gd gb n : Nat) (iv : Value) (wr : World) : Prop where
  ex : ∃ (i : Nat) (f : Ky3 → Option OneE) (N : Nat) (v : Value) (xs : List OneE) (G : Nat → Sl) (L : Nat → List Sl), iv = .int .i64 i ∧ i ≤ n ∧ Hid (PB w.heap.size wr g bm most f N gd v xs gb G L) ∧ Hid (∀ j, j ≠ 0 → G j = slNil)
  below : Hid (Below w.heap.size w wr)
set_option maxRecDepth 100000 in
set_option maxHeartbeats 16000000 in
theorem plays_walk (most : Int) (A : Option Addr) (n c : Nat) (L : List OpS) (now : Int) (w : World) (hL : Opl w A n L) (hr : ∀ o ∈ L, o.s.n ≤ reachBytes) (hc : n ≤ c ∧ c ≤ 9223372036854775807) (hnow : now ≤ 9223372036854775807) :
    Calls Tryz.prog 3 #[.int .i64 most, .slice A n c, .int .i64 now] w fun e w' => e = .returned (.bool true) ∧ Below w.heap.size w w' := by
  have HL := Lib.hid hL
  have HR := Lib.hid hr
  clear hL hr
  go_enter Tryz.func3, Tryz.ntmps3
  go_wp2_with fail
  refine (opHeavy_any A n c L w HL.out HR.out hc.1 hc.2).mono ?_
  rintro e w1 ⟨b, rfl, ⟨q, rfl⟩, hb⟩
  have HH := Lib.hid hb
  clear hb
  cases b with
  | true =>
    go_wp2_with fail
    refine (lives_any _).mono ?_
    rintro e wl ⟨rfl, hbl⟩
    have HBl := Lib.hid (below_then (below_of_drewN _ w q) hbl)
    clear hbl
    go_wp2_with fail
    go_ret
    exact ⟨rfl, HBl.out⟩
  | false =>
    have h120 := (HH.out rfl).1
    have HSm := Lib.hid (HH.out rfl).2
    have HB2 : Hid (Below w.heap.size w (w.drewN q)) := Lib.hid (below_of_drewN _ w q)
    clear HH
    generalize w.drewN q = w2 at *
    by_cases hmay : 1 ≤ most ∧ most ≤ 4096
    · go_wp2_with fail
      refine (stnew_any most w2 hmay.1 hmay.2).mono ?_
      rintro e w3 ⟨g, bm, rfl, hq, hg, hbm, hb3⟩
      have HQ3 := Lib.hid hq
      have hsz2 : w.heap.size ≤ w2.heap.size := HB2.out.size
      have HB3 := Lib.hid (below_then HB2.out hb3)
      have hbmw : w.heap.size ≤ bm := by omega
      clear hq hb3 HB2
      go_wp2_with fail
      refine (may11 most w3).mono ?_
      rintro e w' ⟨rfl, rfl⟩
      rw [decide_eq_true hmay]
      have hb5 : Below w3.heap.size w3 ((w3.alloc (.cells #[.slice none 0 0, .int .i64 most] 31)).alloc (.cells #[.slice none 0 0, .slice none 0 0, .slice none 0 0, .slice none 0 0, .slice none 0 0, .slice none 0 0, .slice none 0 0, .slice none 0 0, .slice none 0 0, .slice none 0 0, .slice none 0 0, .slice none 0 0, .slice none 0 0, .slice none 0 0, .slice none 0 0, .slice none 0 0, .slice none 0 0, .slice none 0 0, .slice none 0 0] 53)) := below_two _ _ _
      have hsz3 : w.heap.size ≤ w3.heap.size := HB3.out.size
      have HPB : Hid (PB w.heap.size ((w3.alloc (.cells #[.slice none 0 0, .int .i64 most] 31)).alloc (.cells #[.slice none 0 0, .slice none 0 0, .slice none 0 0, .slice none 0 0, .slice none 0 0, .slice none 0 0, .slice none 0 0, .slice none 0 0, .slice none 0 0, .slice none 0 0, .slice none 0 0, .slice none 0 0, .slice none 0 0, .slice none 0 0, .slice none 0 0, .slice none 0 0, .slice none 0 0, .slice none 0 0, .slice none 0 0] 53)) g bm most (fun _ => none) 0 w3.heap.size (.slice none 0 0) [] (w3.heap.size + 1) (fun _ => slNil) (fun _ => [])) := Lib.hid
        ⟨⟨HQ3.out.later hb5, fun k x h => (by cases h), ⟨(Blk.new _ _ _).alloc _, World.ownsRow_nil _ _ _ _, by simp⟩, link_nil, rfl, ⟨by omega, hmay.2⟩, hbmw, hsz3⟩, (by
          have h := BagN.new (w3.alloc (.cells #[.slice none 0 0, .int .i64 most] 31)) w.heap.size
          rw [World.size_alloc] at h
          exact h), fun s hs => (by simp at hs), by omega⟩
      have HB5 := Lib.hid (below_then HB3.out hb5)
      clear hb5 HQ3 HB3
      go_wp2_with fail
      generalize (w3.alloc (.cells #[.slice none 0 0, .int .i64 most] 31)).alloc (.cells #[.slice none 0 0, .slice none 0 0, .slice none 0 0, .slice none 0 0, .slice none 0 0, .slice none 0 0, .slice none 0 0, .slice none 0 0, .slice none 0 0, .slice none 0 0, .slice none 0 0, .slice none 0 0, .slice none 0 0, .slice none 0 0, .slice none 0 0, .slice none 0 0, .slice none 0 0, .slice none 0 0, .slice none 0 0] 53) = w5 at *
      generalize hgd : w3.heap.size = gd at *
      clear hgd
      go_loopw [10] (PlayR w g bm most gd (gd + 1) n) (fun iv _ => n - (intOf iv).toNat)
      case atStart => exact ⟨⟨0, _, _, _, _, _, _, rfl, Nat.zero_le _, HPB, Lib.hid fun _ _ => rfl⟩, HB5⟩
      case round =>
        obtain ⟨⟨i, f, N, v, xs, G, Lb, rfl, hi, hp, hz⟩, hb⟩ := hrel
        generalize wr = wj at *
        by_cases hlt : i < n
        · have hltI : (i : Int) < n := by omega
          obtain ⟨ad, o, hA, hadl, hso, hok, hat⟩ := (HL.out.later hb.out).at_ hlt
          subst hA
          have hom := List.mem_of_getElem? hso
          have HOne := Lib.hid (one_any w.heap.size wj g bm most f N gd v xs (gd + 1) G Lb hp.out o hok (by have := HSm.out o hom; omega) (HL.out.may hom))
          obtain ⟨q0, q1, q2, q3, q4, q5, q6, q7, q8, q9, q10⟩ := hat
          clear hso hok hom hadl
          go_wp2_with fail
          refine HOne.out.mono ?_
          rintro e w7 ⟨rfl, f', N', v', xs', G', L', hr⟩
          have HR7 := Lib.hid hr
          have HB7 := Lib.hid (hb.out.trans (hr.below hp.out))
          clear hr HOne q0 q1 q2 q3 q4 q5 q6 q7 q8 q9 q10
          go_wp2_with fail
          refine (stlen_any w7 g bm most f' N' HR7.out.h.p.q).mono ?_
          rintro e w' ⟨rfl, rfl⟩
          go_wp2_with fail
          refine (rlen11 w.heap.size w7 gd v' most xs' HR7.out.h.p.r).mono ?_
          rintro e w' ⟨rfl, rfl⟩
          rw [← HR7.out.h.p.n]
          go_wp2_with fail
          go_roundw
          case rel => exact ⟨⟨i + 1, f', N', v', xs', G', L', by go_num, by omega, Lib.hid HR7.out.h, Lib.hid fun j hj => (HR7.out.oth j hj).trans (hz.out j hj)⟩, HB7⟩
          case measure => simp [intOf]; omega
        · obtain rfl : i = n := by omega
          clear HPB
          have hszj : w.heap.size ≤ wj.heap.size := hb.out.size
          go_wp2_with fail
          refine (like_any w.heap.size wj g bm most f N gd v xs (gd + 1) G Lb hp.out.p hp.out.b hszj now hnow).mono ?_
          rintro e w7 ⟨rfl, G7, L7, hbg, hk7, hu7, ho7⟩
          have HP7 := Lib.hid (hp.out.p.bag hp.out.b hk7)
          have HBg := Lib.hid hbg
          have HD7 := Lib.hid (Dj.more hp.out.dj hu7 hp.out.lt8.1 hp.out.lt8.2.1)
          have HB7 := Lib.hid (hb.out.trans (hk7.below (fun b hbf => BagF.ge hp.out.b hp.out.hgb hbf) hszj))
          have HZ7 : Hid (∀ j, j < 19 → j ∉ [0, 7, 8, 14] → G7 j = slNil) := Lib.hid fun j _ hj => by
            simp at hj
            rw [ho7 j (by omega) (by omega) (by omega) (by omega)]
            exact hz.out j (by omega)
          have hsz7 : w.heap.size ≤ w7.heap.size := HB7.out.size
          clear hbg hk7 hu7 ho7 hp hz hb
          go_wp2_with fail
          refine (apart_all w7 w.heap.size (gd + 1) G7 L7 HBg.out HZ7.out hsz7).mono ?_
          rintro e w8 ⟨rfl, hk8⟩
          have HP8 := Lib.hid (HP7.out.rows HBg.out HD7.out hk8)
          have HB8 := Lib.hid (HB7.out.trans (hk8.below (fun b hbf => RowsF.ge HBg.out hbf) hsz7))
          clear hk8 HP7 HBg HD7 HB7 HZ7
          have hbA : Below w8.heap.size w8 (w8.alloc (.cells #[.slice none 0 0, .slice none 0 0, .slice none 0 0, .slice none 0 0, .slice none 0 0, .slice none 0 0, .slice none 0 0, .slice none 0 0, .slice none 0 0, .slice none 0 0, .slice none 0 0, .slice none 0 0, .slice none 0 0, .slice none 0 0, .slice none 0 0, .slice none 0 0, .slice none 0 0, .slice none 0 0, .slice none 0 0] 53)) := (Below.refl _ _).alloc (Nat.le_refl _) _
          have HBag : Hid (BagN (w8.alloc (.cells #[.slice none 0 0, .slice none 0 0, .slice none 0 0, .slice none 0 0, .slice none 0 0, .slice none 0 0, .slice none 0 0, .slice none 0 0, .slice none 0 0, .slice none 0 0, .slice none 0 0, .slice none 0 0, .slice none 0 0, .slice none 0 0, .slice none 0 0, .slice none 0 0, .slice none 0 0, .slice none 0 0, .slice none 0 0] 53)) w.heap.size w8.heap.size (fun _ => slNil) (fun _ => [])) := Lib.hid (BagN.new w8 w.heap.size)
          have HPa := Lib.hid (HP8.out.later hbA)
          have HBa := Lib.hid (below_then HB8.out hbA)
          have hszk : w.heap.size ≤ w8.heap.size := HB8.out.size
          clear hbA HP8 HB8
          go_wp2_with fail
          generalize hwa : w8.alloc (.cells #[.slice none 0 0, .slice none 0 0, .slice none 0 0, .slice none 0 0, .slice none 0 0, .slice none 0 0, .slice none 0 0, .slice none 0 0, .slice none 0 0, .slice none 0 0, .slice none 0 0, .slice none 0 0, .slice none 0 0, .slice none 0 0, .slice none 0 0, .slice none 0 0, .slice none 0 0, .slice none 0 0, .slice none 0 0] 53) = wa at *
          generalize w8.heap.size = gl at *
          clear hwa
          refine (like_any w.heap.size wa g bm most f N gd v xs gl _ _ HPa.out HBag.out HBa.out.size now hnow).mono ?_
          rintro e wb ⟨rfl, Gb, Lb2, hbg, hkb, hub, -⟩
          have HPb := Lib.hid (HPa.out.bag HBag.out hkb)
          have HBg2 := Lib.hid hbg
          have HBb := Lib.hid (HBa.out.trans (hkb.below (fun b hb => BagF.ge HBag.out hszk hb) HBa.out.size))
          clear hbg hkb hub HPa
          go_wp2_with fail
          refine (like_any w.heap.size wb g bm most f N gd v xs gl _ _ HPb.out HBg2.out HBb.out.size 0 (by decide)).mono ?_
          rintro e wc ⟨rfl, Gc, Lc, hbg, hkc, huc, -⟩
          have HBc := Lib.hid (HBb.out.trans (hkc.below (fun b hb => BagF.ge HBg2.out hszk hb) HBb.out.size))
          clear hbg hkc huc
          go_wp2_with fail
          refine (lives_any _).mono ?_
          rintro e wl ⟨rfl, hbl⟩
          have HBl := Lib.hid (below_then HBc.out hbl)
          clear hbl
          go_wp2_with fail
          go_ret
          exact ⟨rfl, HBl.out⟩
    · go_wp2_with fail
      refine (stnew_bad most w2 (by omega)).mono ?_
      rintro e w' ⟨rfl, rfl⟩
      go_wp2_with fail
      refine (may11 most w2).mono ?_
      rintro e w' ⟨rfl, rfl⟩
      rw [decide_eq_false hmay]
      go_wp2_with fail
      refine (lives_any _).mono ?_
      rintro e wl ⟨rfl, hbl⟩
      have HBl := Lib.hid (below_then HB2.out hbl)
      clear hbl
      go_wp2_with fail
      go_ret
      exact ⟨rfl, HBl.out⟩
end Go.Proofs.YtpncbggjngamgaaGreatDoor
namespace Go.Proofs.YtpncbggjngamgaaGreatDoor
open Go Go.RowKit Go.ChangeShapes
set_option linter.unusedVariables false

/-- What the three listed variables read as. -/
def laid5 : List (String × DataW Unit) := [("math/bits.deBruijn32tab", Rows.laid_math_bits_deBruijn32tab), ("math/bits.deBruijn64tab", Rows.laid_math_bits_deBruijn64tab), ("internal/strconv.uint64pow10", Rows.laid_internal_strconv_uint64pow10)]
def Env (w : World) : Prop := True
theorem env_of_laid {W : World} (h : laidMetH Tryz.prog laid5 W) : Env W := trivial
/-- The door's own heap meets the condition. -/
theorem door_met (os : Os) (args : Array Value) : laidMetH Tryz.prog laid5 ((World.doorLaid Tryz.prog 400 os).forCall (fun _ _ => 0) ⟨#[], args, []⟩).memory :=
  laidMetH_of_parts3 (fuel := 8) (laidMet_of_run' 8 (by kernel_rfl) (by kernel_rfl)) (by kernel_rfl) (by kernel_rfl)
set_option maxRecDepth 100000 in
theorem bytes_arg {H : Type} {enc : TypeId × Value → H} {w : World} {r : Reach} {b : Nat} {held : Bool} {v : Value} {d : DataW H} {p : List MemPlace}
    (hv : Value.okWide Tryz.prog w r b 59 v) (h : DataW.Trod enc Tryz.prog w 0 (fun _ => true) held 59 v d p) :
    ∃ (A : Option Addr) (n c : Nat) (zs : List Int), v = .slice A n c ∧ Reads w w.heap.size 1 A n (u8s zs) ∧ Oct zs ∧ n ≤ c ∧ c ≤ 9223372036854775807 := by
  obtain ⟨A, n, c, rfl⟩ := Go.WideShapes.okWide_slice Tryz.underlying59 hv
  obtain ⟨fuel, hf⟩ := h
  obtain ⟨A2, n2, c2, zs, e, h1, _⟩ := bytes_open Tryz.underlying59 Tryz.underlying5 (by kernel_rfl) (by kernel_rfl) hf
  exact ⟨A2, n2, c2, zs, e, h1⟩
end Go.Proofs.YtpncbggjngamgaaGreatDoor
