/-
  Packets compared: heads.
  Packets compared: states.
  Packets compared: the bodies of hellos and of descriptions. Printed by gen_pk18.py.
  Packets compared. Printed by gen_pk19.py.
-/
import Derived.Test.YtbkejlalbjomkaaPkC
namespace Go.Proofs.Ytbkejlalbjomkaa
set_option linter.unusedVariables false
open Go.RowKit

/-- What a comparison answers. -/
def EqP (q : Prop) (w : World) (e : Ending) (w' : World) : Prop := ∃ b, e = .returned (.bool b) ∧ (b = true ↔ q) ∧ ∃ k, w' = w.drewN k
set_option maxHeartbeats 1000000 in
theorem eqHeads_any (A A' : Option Addr) (n c n' c' : Nat) (xs ys : List Hd) (w : World) (B B' : Nat)
   (hx : Reads w B 8 A n (xs.flatMap Hd.cells)) (hy : Reads w B' 8 A' n' (ys.flatMap Hd.cells)) (hlx : xs.length = n) (hly : ys.length = n') (hn : n ≤ 1073741824) (hn' : n' ≤ 1073741824) :
    Calls Try.prog 63 #[.slice A n c, .slice A' n' c'] w fun e w' => EqP (xs = ys) w e w' := by
  by_cases hl : n = n'
  · obtain rfl := hl
    have Hlx := Lib.hid hlx
    have Hly := Lib.hid hly
    have HX := Lib.hid hx
    have HY := Lib.hid hy
    clear hlx hly hx hy
    go_enter Try.func63, Try.ntmps63
    go_wp2
    go_loopw [5] (fun i wr => ∃ k : Nat, i = .int .i64 k ∧ k ≤ n ∧ Hid (xs.take k = ys.take k) ∧ ∃ d, wr = w.drewN d) (fun i _ => n - (intOf i).toNat)
    case atStart => exact ⟨0, rfl, by omega, rfl, 0, rfl⟩
    case round =>
      obtain ⟨k, rfl, hk, he, d, rfl⟩ := hrel
      by_cases hlt : k < n
      · obtain ⟨ad, x, hA, -, hx1, h0, hj⟩ := rowG_at hd_len HX.out Hlx.out hlt
        obtain ⟨ad', y, hA', -, hy1, h0', hj'⟩ := rowG_at hd_len HY.out Hly.out hlt
        subst hA hA'
        have l0 := h0 _ rfl
        have l1 := hj 1 _ (by decide) rfl
        have l2 := hj 2 _ (by decide) rfl
        have l3 := hj 3 _ (by decide) rfl
        have l4 := hj 4 _ (by decide) rfl
        have l5 := hj 5 _ (by decide) rfl
        have l6 := hj 6 _ (by decide) rfl
        have l7 := hj 7 _ (by decide) rfl
        have m0 := h0' _ rfl
        have m1 := hj' 1 _ (by decide) rfl
        have m2 := hj' 2 _ (by decide) rfl
        have m3 := hj' 3 _ (by decide) rfl
        have m4 := hj' 4 _ (by decide) rfl
        have m5 := hj' 5 _ (by decide) rfl
        have m6 := hj' 6 _ (by decide) rfl
        have m7 := hj' 7 _ (by decide) rfl
        have HX1 := Lib.hid hx1
        have HY1 := Lib.hid hy1
        clear h0 h0' hj hj' hx1 hy1 HX HY
        by_cases hxy : x = y
        · have hq : ∀ W : World, (Op.equalIn 10000 74 (.agg #[.int .u16 x.age, .int .u8 x.opts, .int .u8 x.typ, .int .u32 x.id, .int .u32 x.adv, .int .i32 x.seq, .int .u16 x.sum, .int .u16 x.len]) (.agg #[.int .u16 y.age, .int .u8 y.opts, .int .u8 y.typ, .int .u32 y.id, .int .u32 y.adv, .int .i32 y.seq, .int .u16 y.sum, .int .u16 y.len])).run Try.prog W = .ok true W := fun W => by rw [hd_eq]; exact congrArg (fun b => Result.ok b W) ((eqHd_iff x y).2 hxy)
          have Hxy := Lib.hid hxy
          clear hxy
          go_wp2
          go_quiet (fail)
          go_wp2
          go_roundw
          case rel => exact ⟨k + 1, by go_num, by omega, take_snoc3 HX1 HY1 Hxy.out he, _, rfl⟩
          case measure => simp [intOf]; omega
        · have hq : ∀ W : World, (Op.equalIn 10000 74 (.agg #[.int .u16 x.age, .int .u8 x.opts, .int .u8 x.typ, .int .u32 x.id, .int .u32 x.adv, .int .i32 x.seq, .int .u16 x.sum, .int .u16 x.len]) (.agg #[.int .u16 y.age, .int .u8 y.opts, .int .u8 y.typ, .int .u32 y.id, .int .u32 y.adv, .int .i32 y.seq, .int .u16 y.sum, .int .u16 y.len])).run Try.prog W = .ok false W := fun W => by rw [hd_eq]; exact congrArg (fun b => Result.ok b W) (Bool.eq_false_iff.2 fun h => hxy ((eqHd_iff x y).1 h))
          have hne := nth_ne HX1 HY1 hxy
          clear hxy
          go_wp2
          go_quiet (fail)
          go_wp2
          go_ret
          exact ⟨false, rfl, ⟨fun h => absurd h (by decide), fun h => absurd h hne⟩, _, World.drewN_drewN ..⟩
      · obtain rfl : n = k := by omega
        have heq : xs = ys := by have := he.out; rwa [List.take_of_length_le (by rw [Hlx.out]; omega), List.take_of_length_le (by rw [Hly.out]; omega)] at this
        clear Hlx Hly he
        go_wp2
        go_ret
        exact ⟨true, rfl, ⟨fun _ => heq, fun _ => rfl⟩, _, rfl⟩
  · have hb : ((n : Int) != (n' : Int)) = true := by simp; omega
    have hne : xs ≠ ys := by rintro rfl; omega
    clear hlx hly
    go_enter Try.func63, Try.ntmps63
    go_wp2
    go_ret
    exact ⟨false, rfl, ⟨fun h => absurd h (by decide), fun h => absurd h hne⟩, 0, rfl⟩
theorem ky_fields : (Try.prog.fieldsOf 129).toList = [{ name := "Type", type := 5, offset := 0, embedded := false, tag := "", pkgPath := "", byteOffset := 0 }, { name := "ID", type := 22, offset := 1, embedded := false, tag := "", pkgPath := "", byteOffset := 4 }, { name := "Adv", type := 22, offset := 2, embedded := false, tag := "", pkgPath := "", byteOffset := 8 }] := by kernel_rfl
def eqKy (a b : Ky) : Bool := decide (a.t = b.t) && decide (a.id = b.id) && decide (a.adv = b.adv)
theorem eqKy_iff (a b : Ky) : eqKy a b = true ↔ a = b := by
  obtain ⟨a1, a2, a3⟩ := a
  obtain ⟨b1, b2, b3⟩ := b
  simp [eqKy, and_assoc]
theorem ky_eq (a b : Ky) (w : World) : (Op.equalIn 10000 129 (.agg #[.int .u8 a.t, .int .u32 a.id, .int .u32 a.adv]) (.agg #[.int .u8 b.t, .int .u32 b.id, .int .u32 b.adv])).run Try.prog w = .ok (eqKy a b) w := by
  obtain ⟨a1, a2, a3⟩ := a
  obtain ⟨b1, b2, b3⟩ := b
  rw [show (10000 : Nat) = 9999 + 1 from rfl, run_equalIn_agg w 9999 129 _ _ (by kernel_rfl) (by kernel_rfl), ky_fields]
  unfold eqKy
  go_simp
  by_cases h1 : a1 = b1
  · by_cases h2 : a2 = b2 <;> by_cases h3 : a3 = b3 <;> simp [h1, h2, h3]
  · simp [h1]
set_option maxHeartbeats 1000000 in
theorem eqKeys_any (A A' : Option Addr) (n c n' c' : Nat) (xs ys : List Ky) (w : World) (B B' : Nat)
   (hx : Reads w B 3 A n (xs.flatMap Ky.cells)) (hy : Reads w B' 3 A' n' (ys.flatMap Ky.cells)) (hlx : xs.length = n) (hly : ys.length = n') (hn : n ≤ 1073741824) (hn' : n' ≤ 1073741824) :
    Calls Try.prog 61 #[.slice A n c, .slice A' n' c'] w fun e w' => EqP (xs = ys) w e w' := by
  by_cases hl : n = n'
  · obtain rfl := hl
    have Hlx := Lib.hid hlx
    have Hly := Lib.hid hly
    have HX := Lib.hid hx
    have HY := Lib.hid hy
    clear hlx hly hx hy
    go_enter Try.func61, Try.ntmps61
    go_wp2
    go_loopw [5] (fun i wr => ∃ k : Nat, i = .int .i64 k ∧ k ≤ n ∧ Hid (xs.take k = ys.take k) ∧ ∃ d, wr = w.drewN d) (fun i _ => n - (intOf i).toNat)
    case atStart => exact ⟨0, rfl, by omega, rfl, 0, rfl⟩
    case round =>
      obtain ⟨k, rfl, hk, he, d, rfl⟩ := hrel
      by_cases hlt : k < n
      · obtain ⟨ad, x, hA, -, hx1, h0, hj⟩ := rowG_at ky_len HX.out Hlx.out hlt
        obtain ⟨ad', y, hA', -, hy1, h0', hj'⟩ := rowG_at ky_len HY.out Hly.out hlt
        subst hA hA'
        have l0 := h0 _ rfl
        have l1 := hj 1 _ (by decide) rfl
        have l2 := hj 2 _ (by decide) rfl
        have m0 := h0' _ rfl
        have m1 := hj' 1 _ (by decide) rfl
        have m2 := hj' 2 _ (by decide) rfl
        have HX1 := Lib.hid hx1
        have HY1 := Lib.hid hy1
        clear h0 h0' hj hj' hx1 hy1 HX HY
        by_cases hxy : x = y
        · have hq : ∀ W : World, (Op.equalIn 10000 129 (.agg #[.int .u8 x.t, .int .u32 x.id, .int .u32 x.adv]) (.agg #[.int .u8 y.t, .int .u32 y.id, .int .u32 y.adv])).run Try.prog W = .ok true W := fun W => by rw [ky_eq]; exact congrArg (fun b => Result.ok b W) ((eqKy_iff x y).2 hxy)
          have Hxy := Lib.hid hxy
          clear hxy
          go_wp2
          go_quiet (fail)
          go_wp2
          go_roundw
          case rel => exact ⟨k + 1, by go_num, by omega, take_snoc3 HX1 HY1 Hxy.out he, _, rfl⟩
          case measure => simp [intOf]; omega
        · have hq : ∀ W : World, (Op.equalIn 10000 129 (.agg #[.int .u8 x.t, .int .u32 x.id, .int .u32 x.adv]) (.agg #[.int .u8 y.t, .int .u32 y.id, .int .u32 y.adv])).run Try.prog W = .ok false W := fun W => by rw [ky_eq]; exact congrArg (fun b => Result.ok b W) (Bool.eq_false_iff.2 fun h => hxy ((eqKy_iff x y).1 h))
          have hne := nth_ne HX1 HY1 hxy
          clear hxy
          go_wp2
          go_quiet (fail)
          go_wp2
          go_ret
          exact ⟨false, rfl, ⟨fun h => absurd h (by decide), fun h => absurd h hne⟩, _, World.drewN_drewN ..⟩
      · obtain rfl : n = k := by omega
        have heq : xs = ys := by have := he.out; rwa [List.take_of_length_le (by rw [Hlx.out]; omega), List.take_of_length_le (by rw [Hly.out]; omega)] at this
        clear Hlx Hly he
        go_wp2
        go_ret
        exact ⟨true, rfl, ⟨fun _ => heq, fun _ => rfl⟩, _, rfl⟩
  · have hb : ((n : Int) != (n' : Int)) = true := by simp; omega
    have hne : xs ≠ ys := by rintro rfl; omega
    clear hlx hly
    go_enter Try.func61, Try.ntmps61
    go_wp2
    go_ret
    exact ⟨false, rfl, ⟨fun h => absurd h (by decide), fun h => absurd h hne⟩, 0, rfl⟩
end Go.Proofs.Ytbkejlalbjomkaa
namespace Go.Proofs.Ytbkejlalbjomkaa
set_option linter.unusedVariables false
open Go.RowKit

/-- What a comparison of states is about. -/
def SE.hb (s : SE) : Hd × List Int := (s.h, s.B)
theorem eqS_iff (s t : SE) : eqS s t = true ↔ s.hb = t.hb := by
  unfold eqS SE.hb
  rw [Bool.and_eq_true, eqHd_iff, decide_eq_true_eq, Prod.mk.injEq]
/-- What a comparison answers that makes boxes. -/
def EqB (q : Prop) (w : World) (e : Ending) (w' : World) : Prop := ∃ b, e = .returned (.bool b) ∧ (b = true ↔ q) ∧ Below w.heap.size w w'
theorem EqP.b {q : Prop} {w w' : World} {e : Ending} (h : EqP q w e w') : EqB q w e w' := by
  obtain ⟨b, h1, h2, k, rfl⟩ := h
  exact ⟨b, h1, h2, below_of_drewN _ _ _⟩
def EsR (w : World) (xs ys : List SE) (n : Nat) (i : Value) (W : World) : Prop := ∃ k : Nat, i = .int .i64 k ∧ k ≤ n ∧ Hid ((xs.map SE.hb).take k = (ys.map SE.hb).take k) ∧ Hid (Below w.heap.size w W)
def StS (ad ad' : Addr) (x y : SE) (W : World) : Prop := StAt W ad x ∧ StAt W ad' y
set_option maxRecDepth 100000 in
set_option maxHeartbeats 4000000 in
theorem eqStates_any (A A' : Option Addr) (n c n' c' : Nat) (xs ys : List SE) (w : World)
   (hx : Stl w A n xs) (hy : Stl w A' n' ys) (hfx : ∀ s ∈ xs, s.n ≤ 1099511627776) (hfy : ∀ s ∈ ys, s.n ≤ 1099511627776) (hn : n ≤ 1073741824) (hn' : n' ≤ 1073741824) :
    Calls Try.prog 62 #[.slice A n c, .slice A' n' c'] w fun e w' => EqB (xs.map SE.hb = ys.map SE.hb) w e w' := by
  by_cases hl : n = n'
  · obtain rfl := hl
    have HX := Lib.hid hx
    have HY := Lib.hid hy
    have HFX := Lib.hid hfx
    have HFY := Lib.hid hfy
    clear hx hy hfx hfy
    go_enter Try.func62, Try.ntmps62
    go_wp2_with fail
    go_loopw [5] (EsR w xs ys n) (fun i _ => n - (intOf i).toNat)
    case atStart => exact ⟨0, rfl, by omega, Lib.hid rfl, Lib.hid (Below.refl _ _)⟩
    case round =>
      obtain ⟨k, rfl, hk, he, hB⟩ := hrel
      by_cases hlt : k < n
      · obtain ⟨ad, x, rfl, _, hx1, hok, a0, a1, a2, a3, a4, a5, a6, a7, a8⟩ := (HX.out.later hB.out).at_ hlt
        obtain ⟨ad', y, rfl, _, hy1, hok', b0, b1, b2, b3, b4, b5, b6, b7, b8⟩ := (HY.out.later hB.out).at_ hlt
        have HO := Lib.hid (hok.rd (HFX.out x (List.mem_of_getElem? hx1)))
        have HO' := Lib.hid (hok'.rd (HFY.out y (List.mem_of_getElem? hy1)))
        have HX1 : Hid ((xs.map SE.hb)[k]? = some x.hb) := Lib.hid (by rw [List.getElem?_map, hx1]; rfl)
        have HY1 : Hid ((ys.map SE.hb)[k]? = some y.hb) := Lib.hid (by rw [List.getElem?_map, hy1]; rfl)
        clear hx1 hy1 hok hok'
        obtain ⟨h, xA, xn, xc, xB⟩ := x
        obtain ⟨h', yA, yn, yc, yB⟩ := y
        simp only at a0 a1 a2 a3 a4 a5 a6 a7 a8 b0 b1 b2 b3 b4 b5 b6 b7 b8
        go_wp2_with fail
        have HS : Hid (StS (ad.add (k * 9)) (ad'.add (k * 9)) ⟨h, xA, xn, xc, xB⟩ ⟨h', yA, yn, yc, yB⟩ wr) := Lib.hid ⟨⟨a0, a1, a2, a3, a4, a5, a6, a7, a8⟩, ⟨b0, b1, b2, b3, b4, b5, b6, b7, b8⟩⟩
        clear a0 a1 a2 a3 a4 a5 a6 a7 a8 b0 b1 b2 b3 b4 b5 b6 b7 b8
        have hbd : Below wr.heap.size wr wr.drew := (Below.refl _ _).drew
        replace HS : Hid (StS (ad.add (k * 9)) (ad'.add (k * 9)) ⟨h, xA, xn, xc, xB⟩ ⟨h', yA, yn, yc, yB⟩ wr.drew) := Lib.hid ⟨HS.out.1.later hbd, HS.out.2.later hbd⟩
        replace HO := Lib.hid (HO.out.later hbd)
        replace HO' := Lib.hid (HO'.out.later hbd)
        have HBd := Lib.hid (below_then hB.out hbd)
        clear hbd hB
        refine wp_region_t (StS (ad.add (k * 9)) (ad'.add (k * 9)) ⟨h, xA, xn, xc, xB⟩ ⟨h', yA, yn, yc, yB⟩) (.take 0 (.take 1 (.take 4 (.take 5 (.take 2 (.take 6 (.take 3 (.take 7 (.one 8 (.one 9 .nil)))))))))) (by kernel_rfl) (fun _ d _ _ _ h => by cases d <;> exact h) ?_
        simp only [TStep.node, nthOp_zero, nthOp_succ]
        generalize wr.drew = wd at *
        refine wpT_take HS (by rfl) (by intro W hW; clear hW; go_simp; try with_reducible rfl) ?_
        refine wpT_take HS (by rfl) (by intro W hW; clear hW; go_simp; try with_reducible rfl) ?_
        refine wpT_take HS (by rfl) (by intro W hW; clear hW; go_simp; try with_reducible rfl) ?_
        refine wpT_take HS (by rfl) (by intro W hW; clear hW; go_simp; try with_reducible rfl) ?_
        refine wpT_take HS (by rfl) (by intro W hW; clear hW; go_simp; try with_reducible rfl) ?_
        refine wpT_take HS (by rfl) (by intro W hW; clear hW; go_simp; try with_reducible rfl) ?_
        go_simp
        refine wpT_take HS (by rfl) (by intro W hW; unfold StS StAt at hW; obtain ⟨⟨a0, a1, a2, a3, a4, a5, a6, a7, a8⟩, ⟨b0, b1, b2, b3, b4, b5, b6, b7, b8⟩⟩ := hW; simp only at a0 a1 a2 a3 a4 a5 a6 a7 a8 b0 b1 b2 b3 b4 b5 b6 b7 b8; go_simp; try with_reducible rfl) ?_
        refine wpT_take HS (by rfl) (by intro W hW; unfold StS StAt at hW; obtain ⟨⟨a0, a1, a2, a3, a4, a5, a6, a7, a8⟩, ⟨b0, b1, b2, b3, b4, b5, b6, b7, b8⟩⟩ := hW; simp only at a0 a1 a2 a3 a4 a5 a6 a7 a8 b0 b1 b2 b3 b4 b5 b6 b7 b8; go_simp; try with_reducible rfl) ?_
        go_simp
        refine wpT_do fun K hK => ?_
        go_wp2_with fail
        refine (eqState_any ⟨h, xA, xn, xc, xB⟩ ⟨h', yA, yn, yc, yB⟩ wd HO.out HO'.out).mono ?_
        rintro e w2 ⟨rfl, hb2⟩
        have HB2 := Lib.hid (below_then HBd.out hb2)
        replace HS : Hid (StS (ad.add (k * 9)) (ad'.add (k * 9)) ⟨h, xA, xn, xc, xB⟩ ⟨h', yA, yn, yc, yB⟩ w2) := Lib.hid ⟨HS.out.1.later hb2, HS.out.2.later hb2⟩
        clear hb2 HBd HO HO'
        go_wp2_with fail
        refine hK.out _ _ HS.out ?_
        clear hK K
        go_simp
        refine wpT_do fun K hK => ?_
        go_wp2_with fail
        refine hK.out _ _ HS.out ?_
        clear hK K
        refine wpT_nil ?_
        go_simp
        have hiff := eqS_iff ⟨h, xA, xn, xc, xB⟩ ⟨h', yA, yn, yc, yB⟩
        generalize eqS ⟨h, xA, xn, xc, xB⟩ ⟨h', yA, yn, yc, yB⟩ = dd at *
        cases dd with
        | true =>
          have Hxy := Lib.hid (hiff.1 rfl)
          clear hiff
          go_wp2_with fail
          go_roundw
          case rel => exact ⟨k + 1, by go_num, by omega, take_snoc3 HX1 HY1 Hxy.out he, HB2⟩
          case measure => simp [intOf]; omega
        | false =>
          have hne := nth_ne HX1 HY1 (fun q => absurd (hiff.2 q) (by decide))
          clear hiff
          go_wp2_with fail
          go_ret
          exact ⟨false, rfl, ⟨fun h => absurd h (by decide), fun h => absurd h hne⟩, HB2.out⟩
      · obtain rfl : n = k := by omega
        have heq : xs.map SE.hb = ys.map SE.hb := by have := he.out; rwa [List.take_of_length_le (by rw [List.length_map, HX.out.len]; omega), List.take_of_length_le (by rw [List.length_map, HY.out.len]; omega)] at this
        clear he
        go_wp2_with fail
        go_ret
        exact ⟨true, rfl, ⟨fun _ => heq, fun _ => rfl⟩, hB.out⟩
  · have hb : ((n : Int) != (n' : Int)) = true := by simp; omega
    have hne : ¬ xs.map SE.hb = ys.map SE.hb := fun e => hl (by have := congrArg List.length e; rw [List.length_map, List.length_map, hx.len, hy.len] at this; exact this)
    clear hx hy hfx hfy
    go_enter Try.func62, Try.ntmps62
    go_wp2_with fail
    go_ret
    exact ⟨false, rfl, ⟨fun h => absurd h (by decide), fun h => absurd h hne⟩, Below.refl _ _⟩
end Go.Proofs.Ytbkejlalbjomkaa
namespace Go.Proofs.Ytbkejlalbjomkaa
set_option linter.unusedVariables false
open Go.RowKit

set_option maxRecDepth 100000 in
set_option maxHeartbeats 4000000 in
theorem eqHello_any (p q : PA) (w : World) (hp : p.rd w) (hq : q.rd w) (fp : p.few) (fq : q.few) :
    Calls Try.prog 59 #[.agg #[.int .u32 p.mask, .int .u16 p.ivl, .int .u8 p.hopts, .int .u8 p.pri, .int .u32 p.dead, .int .u32 p.dr, .int .u32 p.bdr, .slice p.NA p.nn p.nc], .agg #[.int .u32 q.mask, .int .u16 q.ivl, .int .u8 q.hopts, .int .u8 q.pri, .int .u32 q.dead, .int .u32 q.dr, .int .u32 q.bdr, .slice q.NA q.nn q.nc]] w fun e w' => EqB (p.mask = q.mask ∧ p.ivl = q.ivl ∧ p.hopts = q.hopts ∧ p.pri = q.pri ∧ p.dead = q.dead ∧ p.dr = q.dr ∧ p.bdr = q.bdr ∧ p.nb = q.nb) w e w' := by
  have X1 : Hid (Blk ((w.alloc (.cells #[.int .u32 p.mask, .int .u16 p.ivl, .int .u8 p.hopts, .int .u8 p.pri, .int .u32 p.dead, .int .u32 p.dr, .int .u32 p.bdr, .slice p.NA p.nn p.nc] 26)).alloc (.cells #[.int .u32 q.mask, .int .u16 q.ivl, .int .u8 q.hopts, .int .u8 q.pri, .int .u32 q.dead, .int .u32 q.dr, .int .u32 q.bdr, .slice q.NA q.nn q.nc] 26)) w.heap.size 26 #[.int .u32 p.mask, .int .u16 p.ivl, .int .u8 p.hopts, .int .u8 p.pri, .int .u32 p.dead, .int .u32 p.dr, .int .u32 p.bdr, .slice p.NA p.nn p.nc]) := Lib.hid ((Blk.new _ _ _).alloc _)
  have X2 : Hid (Blk ((w.alloc (.cells #[.int .u32 p.mask, .int .u16 p.ivl, .int .u8 p.hopts, .int .u8 p.pri, .int .u32 p.dead, .int .u32 p.dr, .int .u32 p.bdr, .slice p.NA p.nn p.nc] 26)).alloc (.cells #[.int .u32 q.mask, .int .u16 q.ivl, .int .u8 q.hopts, .int .u8 q.pri, .int .u32 q.dead, .int .u32 q.dr, .int .u32 q.bdr, .slice q.NA q.nn q.nc] 26)) (w.heap.size + 1) 26 #[.int .u32 q.mask, .int .u16 q.ivl, .int .u8 q.hopts, .int .u8 q.pri, .int .u32 q.dead, .int .u32 q.dr, .int .u32 q.bdr, .slice q.NA q.nn q.nc]) := new_at _ _ _
  have HW : Hid (Below w.heap.size w ((w.alloc (.cells #[.int .u32 p.mask, .int .u16 p.ivl, .int .u8 p.hopts, .int .u8 p.pri, .int .u32 p.dead, .int .u32 p.dr, .int .u32 p.bdr, .slice p.NA p.nn p.nc] 26)).alloc (.cells #[.int .u32 q.mask, .int .u16 q.ivl, .int .u8 q.hopts, .int .u8 q.pri, .int .u32 q.dead, .int .u32 q.dr, .int .u32 q.bdr, .slice q.NA q.nn q.nc] 26))) := below_two _ _ _
  have HD := Lib.hid (fun (W : World) (hW : Below w.heap.size w W) => eqWords_any p.NA q.NA p.nn p.nc q.nn q.nc p.nb q.nb W _ _ (hp.nr.later hW) (hq.nr.later hW) (by have := fp.n; omega) (by have := fq.n; omega))
  clear hp hq fp fq
  have a0 := X1.out.cell 0
  have b0 := X2.out.cell 0
  have a1 := X1.out.cell 1
  have b1 := X2.out.cell 1
  have a2 := X1.out.cell 2
  have b2 := X2.out.cell 2
  have a3 := X1.out.cell 3
  have b3 := X2.out.cell 3
  have a4 := X1.out.cell 4
  have b4 := X2.out.cell 4
  have a5 := X1.out.cell 5
  have b5 := X2.out.cell 5
  have a6 := X1.out.cell 6
  have b6 := X2.out.cell 6
  have a7 := X1.out.cell 7
  have b7 := X2.out.cell 7
  simp at a0 b0 a1 b1 a2 b2 a3 b3 a4 b4 a5 b5 a6 b6 a7 b7
  by_cases h0 : p.mask = q.mask
  rotate_left
  · go_enter Try.func59, Try.ntmps59
    go_wp2_with fail
    go_ret
    exact ⟨false, rfl, ⟨fun h => absurd h (by decide), fun h => absurd h.1 h0⟩, HW.out⟩
  by_cases h1 : p.ivl = q.ivl
  rotate_left
  · go_enter Try.func59, Try.ntmps59
    go_wp2_with fail
    go_ret
    exact ⟨false, rfl, ⟨fun h => absurd h (by decide), fun h => absurd h.2.1 h1⟩, (by have := HW.out; simp only [h0] at this; exact this)⟩
  by_cases h2 : p.hopts = q.hopts
  rotate_left
  · go_enter Try.func59, Try.ntmps59
    go_wp2_with fail
    go_ret
    exact ⟨false, rfl, ⟨fun h => absurd h (by decide), fun h => absurd h.2.2.1 h2⟩, (by have := HW.out; simp only [h0, h1] at this; exact this)⟩
  by_cases h3 : p.pri = q.pri
  rotate_left
  · go_enter Try.func59, Try.ntmps59
    go_wp2_with fail
    go_ret
    exact ⟨false, rfl, ⟨fun h => absurd h (by decide), fun h => absurd h.2.2.2.1 h3⟩, (by have := HW.out; simp only [h0, h1, h2] at this; exact this)⟩
  by_cases h4 : p.dead = q.dead
  rotate_left
  · go_enter Try.func59, Try.ntmps59
    go_wp2_with fail
    go_ret
    exact ⟨false, rfl, ⟨fun h => absurd h (by decide), fun h => absurd h.2.2.2.2.1 h4⟩, (by have := HW.out; simp only [h0, h1, h2, h3] at this; exact this)⟩
  by_cases h5 : p.dr = q.dr
  rotate_left
  · go_enter Try.func59, Try.ntmps59
    go_wp2_with fail
    go_ret
    exact ⟨false, rfl, ⟨fun h => absurd h (by decide), fun h => absurd h.2.2.2.2.2.1 h5⟩, (by have := HW.out; simp only [h0, h1, h2, h3, h4] at this; exact this)⟩
  by_cases h6 : p.bdr = q.bdr
  rotate_left
  · go_enter Try.func59, Try.ntmps59
    go_wp2_with fail
    go_ret
    exact ⟨false, rfl, ⟨fun h => absurd h (by decide), fun h => absurd h.2.2.2.2.2.2.1 h6⟩, (by have := HW.out; simp only [h0, h1, h2, h3, h4, h5] at this; exact this)⟩
  go_enter Try.func59, Try.ntmps59
  go_wp2_with fail
  have HW2 := HW.out
  simp only [h0, h1, h2, h3, h4, h5, h6] at HW2
  refine (HD.out _ HW2).mono ?_
  rintro e w1 ⟨rfl, q0, rfl⟩
  have HB : Hid (decide (p.nb = q.nb) = true ↔ p.nb = q.nb) := Lib.hid decide_eq_true_iff
  go_wp2_with fail
  go_ret
  exact ⟨_, rfl, ⟨fun h => ⟨h0, h1, h2, h3, h4, h5, h6, HB.out.1 h⟩, fun h => HB.out.2 h.2.2.2.2.2.2.2⟩, below_drewN HW2 q0⟩
set_option maxRecDepth 100000 in
set_option maxHeartbeats 4000000 in
theorem eqDD_any (p q : PA) (w : World) (hp : p.rd w) (hq : q.rd w) (fp : p.few) (fq : q.few) :
    Calls Try.prog 60 #[.agg #[.int .u16 p.mtu, .int .u8 p.dopts, .int .u8 p.flags, .int .u32 p.seq, .slice p.DA p.dn p.dc], .agg #[.int .u16 q.mtu, .int .u8 q.dopts, .int .u8 q.flags, .int .u32 q.seq, .slice q.DA q.dn q.dc]] w fun e w' => EqB (p.mtu = q.mtu ∧ p.dopts = q.dopts ∧ p.flags = q.flags ∧ p.seq = q.seq ∧ p.dh = q.dh) w e w' := by
  have X1 : Hid (Blk ((w.alloc (.cells #[.int .u16 p.mtu, .int .u8 p.dopts, .int .u8 p.flags, .int .u32 p.seq, .slice p.DA p.dn p.dc] 29)).alloc (.cells #[.int .u16 q.mtu, .int .u8 q.dopts, .int .u8 q.flags, .int .u32 q.seq, .slice q.DA q.dn q.dc] 29)) w.heap.size 29 #[.int .u16 p.mtu, .int .u8 p.dopts, .int .u8 p.flags, .int .u32 p.seq, .slice p.DA p.dn p.dc]) := Lib.hid ((Blk.new _ _ _).alloc _)
  have X2 : Hid (Blk ((w.alloc (.cells #[.int .u16 p.mtu, .int .u8 p.dopts, .int .u8 p.flags, .int .u32 p.seq, .slice p.DA p.dn p.dc] 29)).alloc (.cells #[.int .u16 q.mtu, .int .u8 q.dopts, .int .u8 q.flags, .int .u32 q.seq, .slice q.DA q.dn q.dc] 29)) (w.heap.size + 1) 29 #[.int .u16 q.mtu, .int .u8 q.dopts, .int .u8 q.flags, .int .u32 q.seq, .slice q.DA q.dn q.dc]) := new_at _ _ _
  have HW : Hid (Below w.heap.size w ((w.alloc (.cells #[.int .u16 p.mtu, .int .u8 p.dopts, .int .u8 p.flags, .int .u32 p.seq, .slice p.DA p.dn p.dc] 29)).alloc (.cells #[.int .u16 q.mtu, .int .u8 q.dopts, .int .u8 q.flags, .int .u32 q.seq, .slice q.DA q.dn q.dc] 29))) := below_two _ _ _
  have HD := Lib.hid (fun (W : World) (hW : Below w.heap.size w W) => eqHeads_any p.DA q.DA p.dn p.dc q.dn q.dc p.dh q.dh W _ _ (hp.dr.later hW) (hq.dr.later hW) hp.ok.dl hq.ok.dl (by have := fp.d; omega) (by have := fq.d; omega))
  clear hp hq fp fq
  have a0 := X1.out.cell 0
  have b0 := X2.out.cell 0
  have a1 := X1.out.cell 1
  have b1 := X2.out.cell 1
  have a2 := X1.out.cell 2
  have b2 := X2.out.cell 2
  have a3 := X1.out.cell 3
  have b3 := X2.out.cell 3
  have a4 := X1.out.cell 4
  have b4 := X2.out.cell 4
  simp at a0 b0 a1 b1 a2 b2 a3 b3 a4 b4
  by_cases h0 : p.mtu = q.mtu
  rotate_left
  · go_enter Try.func60, Try.ntmps60
    go_wp2_with fail
    go_ret
    exact ⟨false, rfl, ⟨fun h => absurd h (by decide), fun h => absurd h.1 h0⟩, HW.out⟩
  by_cases h1 : p.dopts = q.dopts
  rotate_left
  · go_enter Try.func60, Try.ntmps60
    go_wp2_with fail
    go_ret
    exact ⟨false, rfl, ⟨fun h => absurd h (by decide), fun h => absurd h.2.1 h1⟩, (by have := HW.out; simp only [h0] at this; exact this)⟩
  by_cases h2 : p.flags = q.flags
  rotate_left
  · go_enter Try.func60, Try.ntmps60
    go_wp2_with fail
    go_ret
    exact ⟨false, rfl, ⟨fun h => absurd h (by decide), fun h => absurd h.2.2.1 h2⟩, (by have := HW.out; simp only [h0, h1] at this; exact this)⟩
  by_cases h3 : p.seq = q.seq
  rotate_left
  · go_enter Try.func60, Try.ntmps60
    go_wp2_with fail
    go_ret
    exact ⟨false, rfl, ⟨fun h => absurd h (by decide), fun h => absurd h.2.2.2.1 h3⟩, (by have := HW.out; simp only [h0, h1, h2] at this; exact this)⟩
  go_enter Try.func60, Try.ntmps60
  go_wp2_with fail
  have HW2 := HW.out
  simp only [h0, h1, h2, h3] at HW2
  refine (HD.out _ HW2).mono ?_
  rintro e w1 ⟨bb, rfl, hbb, q0, rfl⟩
  have HB := Lib.hid hbb
  clear hbb
  go_wp2_with fail
  go_ret
  exact ⟨_, rfl, ⟨fun h => ⟨h0, h1, h2, h3, HB.out.1 h⟩, fun h => HB.out.2 h.2.2.2.2⟩, below_drewN HW2 q0⟩
end Go.Proofs.Ytbkejlalbjomkaa
namespace Go.Proofs.Ytbkejlalbjomkaa
set_option linter.unusedVariables false
open Go.RowKit

def EqHe (p q : PA) : Prop := p.mask = q.mask ∧ p.ivl = q.ivl ∧ p.hopts = q.hopts ∧ p.pri = q.pri ∧ p.dead = q.dead ∧ p.dr = q.dr ∧ p.bdr = q.bdr ∧ p.nb = q.nb
def EqDe (p q : PA) : Prop := p.mtu = q.mtu ∧ p.dopts = q.dopts ∧ p.flags = q.flags ∧ p.seq = q.seq ∧ p.dh = q.dh
/-- Do two packets say the same? -/
def EqPa (p q : PA) : Prop := p.typ = q.typ ∧ p.router = q.router ∧ p.area = q.area ∧ EqHe p q ∧ EqDe p q ∧ p.ks = q.ks ∧ p.ss.map SE.hb = q.ss.map SE.hb ∧ p.hs = q.hs
theorem pk_facts {w : World} {g : Nat} {v0 v1 v2 v3 v4 v5 v6 v7 v8 v9 v10 v11 v12 v13 v14 v15 v16 v17 v18 : Value} (h : Blk w g 33 #[v0, v1, v2, v3, v4, v5, v6, v7, v8, v9, v10, v11, v12, v13, v14, v15, v16, v17, v18]) : w.cell? ⟨g, 0, none⟩ = some (v0) ∧ w.cell? ⟨g, 1, none⟩ = some (v1) ∧ w.cell? ⟨g, 2, none⟩ = some (v2) ∧ w.cell? ⟨g, 3, none⟩ = some (v3) ∧ w.cell? ⟨g, 4, none⟩ = some (v4) ∧ w.cell? ⟨g, 5, none⟩ = some (v5) ∧ w.cell? ⟨g, 6, none⟩ = some (v6) ∧ w.cell? ⟨g, 7, none⟩ = some (v7) ∧ w.cell? ⟨g, 8, none⟩ = some (v8) ∧ w.cell? ⟨g, 9, none⟩ = some (v9) ∧ w.cell? ⟨g, 10, none⟩ = some (v10) ∧ w.cell? ⟨g, 11, none⟩ = some (v11) ∧ w.cell? ⟨g, 12, none⟩ = some (v12) ∧ w.cell? ⟨g, 13, none⟩ = some (v13) ∧ w.cell? ⟨g, 14, none⟩ = some (v14) ∧ w.cell? ⟨g, 15, none⟩ = some (v15) ∧ w.cell? ⟨g, 16, none⟩ = some (v16) ∧ w.cell? ⟨g, 17, none⟩ = some (v17) ∧ w.cell? ⟨g, 18, none⟩ = some (v18) := ⟨by have := h.cell 0; simpa using this, by have := h.cell 1; simpa using this, by have := h.cell 2; simpa using this, by have := h.cell 3; simpa using this, by have := h.cell 4; simpa using this, by have := h.cell 5; simpa using this, by have := h.cell 6; simpa using this, by have := h.cell 7; simpa using this, by have := h.cell 8; simpa using this, by have := h.cell 9; simpa using this, by have := h.cell 10; simpa using this, by have := h.cell 11; simpa using this, by have := h.cell 12; simpa using this, by have := h.cell 13; simpa using this, by have := h.cell 14; simpa using this, by have := h.cell 15; simpa using this, by have := h.cell 16; simpa using this, by have := h.cell 17; simpa using this, by have := h.cell 18; simpa using this⟩
set_option maxRecDepth 100000 in
set_option maxHeartbeats 8000000 in
theorem eqPacket_any (p q : PA) (w : World) (hp : p.rd w) (hq : q.rd w) (fp : p.few) (fq : q.few) :
    Calls Try.prog 17 #[p.v, q.v] w fun e w' => EqB (EqPa p q) w e w' := by
  show Calls Try.prog 17 #[.agg #[.int .u8 p.typ, .int .u32 p.router, .int .u32 p.area, .int .u32 p.mask, .int .u16 p.ivl, .int .u8 p.hopts, .int .u8 p.pri, .int .u32 p.dead, .int .u32 p.dr, .int .u32 p.bdr, .slice p.NA p.nn p.nc, .int .u16 p.mtu, .int .u8 p.dopts, .int .u8 p.flags, .int .u32 p.seq, .slice p.DA p.dn p.dc, .slice p.KA p.kn p.kc, .slice p.SA p.sn p.sc, .slice p.HA p.hn p.hc], .agg #[.int .u8 q.typ, .int .u32 q.router, .int .u32 q.area, .int .u32 q.mask, .int .u16 q.ivl, .int .u8 q.hopts, .int .u8 q.pri, .int .u32 q.dead, .int .u32 q.dr, .int .u32 q.bdr, .slice q.NA q.nn q.nc, .int .u16 q.mtu, .int .u8 q.dopts, .int .u8 q.flags, .int .u32 q.seq, .slice q.DA q.dn q.dc, .slice q.KA q.kn q.kc, .slice q.SA q.sn q.sc, .slice q.HA q.hn q.hc]] w _
  have X1 : Hid (Blk ((w.alloc (.cells #[.int .u8 p.typ, .int .u32 p.router, .int .u32 p.area, .int .u32 p.mask, .int .u16 p.ivl, .int .u8 p.hopts, .int .u8 p.pri, .int .u32 p.dead, .int .u32 p.dr, .int .u32 p.bdr, .slice p.NA p.nn p.nc, .int .u16 p.mtu, .int .u8 p.dopts, .int .u8 p.flags, .int .u32 p.seq, .slice p.DA p.dn p.dc, .slice p.KA p.kn p.kc, .slice p.SA p.sn p.sc, .slice p.HA p.hn p.hc] 33)).alloc (.cells #[.int .u8 q.typ, .int .u32 q.router, .int .u32 q.area, .int .u32 q.mask, .int .u16 q.ivl, .int .u8 q.hopts, .int .u8 q.pri, .int .u32 q.dead, .int .u32 q.dr, .int .u32 q.bdr, .slice q.NA q.nn q.nc, .int .u16 q.mtu, .int .u8 q.dopts, .int .u8 q.flags, .int .u32 q.seq, .slice q.DA q.dn q.dc, .slice q.KA q.kn q.kc, .slice q.SA q.sn q.sc, .slice q.HA q.hn q.hc] 33)) w.heap.size 33 #[.int .u8 p.typ, .int .u32 p.router, .int .u32 p.area, .int .u32 p.mask, .int .u16 p.ivl, .int .u8 p.hopts, .int .u8 p.pri, .int .u32 p.dead, .int .u32 p.dr, .int .u32 p.bdr, .slice p.NA p.nn p.nc, .int .u16 p.mtu, .int .u8 p.dopts, .int .u8 p.flags, .int .u32 p.seq, .slice p.DA p.dn p.dc, .slice p.KA p.kn p.kc, .slice p.SA p.sn p.sc, .slice p.HA p.hn p.hc]) := Lib.hid ((Blk.new _ _ _).alloc _)
  have X2 : Hid (Blk ((w.alloc (.cells #[.int .u8 p.typ, .int .u32 p.router, .int .u32 p.area, .int .u32 p.mask, .int .u16 p.ivl, .int .u8 p.hopts, .int .u8 p.pri, .int .u32 p.dead, .int .u32 p.dr, .int .u32 p.bdr, .slice p.NA p.nn p.nc, .int .u16 p.mtu, .int .u8 p.dopts, .int .u8 p.flags, .int .u32 p.seq, .slice p.DA p.dn p.dc, .slice p.KA p.kn p.kc, .slice p.SA p.sn p.sc, .slice p.HA p.hn p.hc] 33)).alloc (.cells #[.int .u8 q.typ, .int .u32 q.router, .int .u32 q.area, .int .u32 q.mask, .int .u16 q.ivl, .int .u8 q.hopts, .int .u8 q.pri, .int .u32 q.dead, .int .u32 q.dr, .int .u32 q.bdr, .slice q.NA q.nn q.nc, .int .u16 q.mtu, .int .u8 q.dopts, .int .u8 q.flags, .int .u32 q.seq, .slice q.DA q.dn q.dc, .slice q.KA q.kn q.kc, .slice q.SA q.sn q.sc, .slice q.HA q.hn q.hc] 33)) (w.heap.size + 1) 33 #[.int .u8 q.typ, .int .u32 q.router, .int .u32 q.area, .int .u32 q.mask, .int .u16 q.ivl, .int .u8 q.hopts, .int .u8 q.pri, .int .u32 q.dead, .int .u32 q.dr, .int .u32 q.bdr, .slice q.NA q.nn q.nc, .int .u16 q.mtu, .int .u8 q.dopts, .int .u8 q.flags, .int .u32 q.seq, .slice q.DA q.dn q.dc, .slice q.KA q.kn q.kc, .slice q.SA q.sn q.sc, .slice q.HA q.hn q.hc]) := new_at _ _ _
  have HW : Hid (Below w.heap.size w ((w.alloc (.cells #[.int .u8 p.typ, .int .u32 p.router, .int .u32 p.area, .int .u32 p.mask, .int .u16 p.ivl, .int .u8 p.hopts, .int .u8 p.pri, .int .u32 p.dead, .int .u32 p.dr, .int .u32 p.bdr, .slice p.NA p.nn p.nc, .int .u16 p.mtu, .int .u8 p.dopts, .int .u8 p.flags, .int .u32 p.seq, .slice p.DA p.dn p.dc, .slice p.KA p.kn p.kc, .slice p.SA p.sn p.sc, .slice p.HA p.hn p.hc] 33)).alloc (.cells #[.int .u8 q.typ, .int .u32 q.router, .int .u32 q.area, .int .u32 q.mask, .int .u16 q.ivl, .int .u8 q.hopts, .int .u8 q.pri, .int .u32 q.dead, .int .u32 q.dr, .int .u32 q.bdr, .slice q.NA q.nn q.nc, .int .u16 q.mtu, .int .u8 q.dopts, .int .u8 q.flags, .int .u32 q.seq, .slice q.DA q.dn q.dc, .slice q.KA q.kn q.kc, .slice q.SA q.sn q.sc, .slice q.HA q.hn q.hc] 33))) := below_two _ _ _
  have HP := Lib.hid hp
  have HQ := Lib.hid hq
  have FP := Lib.hid fp
  have FQ := Lib.hid fq
  clear hp hq fp fq
  obtain ⟨a0, a1, a2, a3, a4, a5, a6, a7, a8, a9, a10, a11, a12, a13, a14, a15, a16, a17, a18⟩ := pk_facts X1.out
  obtain ⟨b0, b1, b2, b3, b4, b5, b6, b7, b8, b9, b10, b11, b12, b13, b14, b15, b16, b17, b18⟩ := pk_facts X2.out
  by_cases h0 : p.typ = q.typ
  rotate_left
  · go_enter Try.func17, Try.ntmps17
    go_wp2_with fail
    go_ret
    exact ⟨false, rfl, ⟨fun h => absurd h (by decide), fun h => absurd h.1 h0⟩, HW.out⟩
  by_cases h1 : p.router = q.router
  rotate_left
  · go_enter Try.func17, Try.ntmps17
    go_wp2_with fail
    go_ret
    exact ⟨false, rfl, ⟨fun h => absurd h (by decide), fun h => absurd h.2.1 h1⟩, (by have := HW.out; simp only [h0] at this; exact this)⟩
  by_cases h2 : p.area = q.area
  rotate_left
  · go_enter Try.func17, Try.ntmps17
    go_wp2_with fail
    go_ret
    exact ⟨false, rfl, ⟨fun h => absurd h (by decide), fun h => absurd h.2.2.1 h2⟩, (by have := HW.out; simp only [h0, h1] at this; exact this)⟩
  have HW2 := HW.out
  replace X1 := X1.out
  replace X2 := X2.out
  clear HW
  simp only [h0, h1, h2] at HW2 X1 X2
  go_enter Try.func17, Try.ntmps17
  go_wp2_with fail
  refine Calls.mono (eqHello_any p q _ (HP.out.later HW2) (HQ.out.later HW2) FP.out FQ.out) ?_
  rintro e w1 ⟨tt1, rfl, hb1, hk1⟩
  have HB1 := Lib.hid hb1
  clear hb1
  have HW3 := below_then HW2 hk1
  replace X1 := X1.later hk1
  replace X2 := X2.later hk1
  clear hk1
  clear a0 b0 a1 b1 a2 b2 a3 b3 a4 b4 a5 b5 a6 b6 a7 b7 a8 b8 a9 b9 a10 b10 a11 b11 a12 b12 a13 b13 a14 b14 a15 b15 a16 b16 a17 b17 a18 b18
  obtain ⟨a0, a1, a2, a3, a4, a5, a6, a7, a8, a9, a10, a11, a12, a13, a14, a15, a16, a17, a18⟩ := pk_facts X1
  obtain ⟨b0, b1, b2, b3, b4, b5, b6, b7, b8, b9, b10, b11, b12, b13, b14, b15, b16, b17, b18⟩ := pk_facts X2
  cases tt1
  · go_wp2_with fail
    go_ret
    exact ⟨false, rfl, ⟨fun h => absurd h (by decide), fun h => absurd (HB1.out.2 h.2.2.2.1) (by decide)⟩, HW3⟩
  go_wp2_with fail
  refine Calls.mono (eqDD_any p q _ (HP.out.later HW3) (HQ.out.later HW3) FP.out FQ.out) ?_
  rintro e w2 ⟨tt2, rfl, hb2, hk2⟩
  have HB2 := Lib.hid hb2
  clear hb2
  have HW4 := below_then HW3 hk2
  replace X1 := X1.later hk2
  replace X2 := X2.later hk2
  clear hk2
  clear a0 b0 a1 b1 a2 b2 a3 b3 a4 b4 a5 b5 a6 b6 a7 b7 a8 b8 a9 b9 a10 b10 a11 b11 a12 b12 a13 b13 a14 b14 a15 b15 a16 b16 a17 b17 a18 b18
  obtain ⟨a0, a1, a2, a3, a4, a5, a6, a7, a8, a9, a10, a11, a12, a13, a14, a15, a16, a17, a18⟩ := pk_facts X1
  obtain ⟨b0, b1, b2, b3, b4, b5, b6, b7, b8, b9, b10, b11, b12, b13, b14, b15, b16, b17, b18⟩ := pk_facts X2
  cases tt2
  · go_wp2_with fail
    go_ret
    exact ⟨false, rfl, ⟨fun h => absurd h (by decide), fun h => absurd (HB2.out.2 h.2.2.2.2.1) (by decide)⟩, HW4⟩
  go_wp2_with fail
  refine Calls.mono ((eqKeys_any p.KA q.KA p.kn p.kc q.kn q.kc p.ks q.ks _ _ _ (HP.out.later HW4).kr (HQ.out.later HW4).kr HP.out.ok.kl HQ.out.ok.kl (by have := FP.out.k; omega) (by have := FQ.out.k; omega))) ?_
  rintro e w3 hq3
  obtain ⟨tt3, rfl, hb3, hk3⟩ := EqP.b hq3
  have HB3 := Lib.hid hb3
  clear hb3
  have HW5 := below_then HW4 hk3
  replace X1 := X1.later hk3
  replace X2 := X2.later hk3
  clear hk3
  clear a0 b0 a1 b1 a2 b2 a3 b3 a4 b4 a5 b5 a6 b6 a7 b7 a8 b8 a9 b9 a10 b10 a11 b11 a12 b12 a13 b13 a14 b14 a15 b15 a16 b16 a17 b17 a18 b18
  obtain ⟨a0, a1, a2, a3, a4, a5, a6, a7, a8, a9, a10, a11, a12, a13, a14, a15, a16, a17, a18⟩ := pk_facts X1
  obtain ⟨b0, b1, b2, b3, b4, b5, b6, b7, b8, b9, b10, b11, b12, b13, b14, b15, b16, b17, b18⟩ := pk_facts X2
  cases tt3
  · go_wp2_with fail
    go_ret
    exact ⟨false, rfl, ⟨fun h => absurd h (by decide), fun h => absurd (HB3.out.2 h.2.2.2.2.2.1) (by decide)⟩, HW5⟩
  go_wp2_with fail
  refine Calls.mono (eqStates_any p.SA q.SA p.sn p.sc q.sn q.sc p.ss q.ss _ ⟨(HP.out.later HW5).sr, HP.out.ok.sl, (HP.out.later HW5).sa⟩ ⟨(HQ.out.later HW5).sr, HQ.out.ok.sl, (HQ.out.later HW5).sa⟩ (fun s hs => by have := FP.out.b s hs; omega) (fun s hs => by have := FQ.out.b s hs; omega) (by have := FP.out.s; omega) (by have := FQ.out.s; omega)) ?_
  rintro e w4 ⟨tt4, rfl, hb4, hk4⟩
  have HB4 := Lib.hid hb4
  clear hb4
  have HW6 := below_then HW5 hk4
  replace X1 := X1.later hk4
  replace X2 := X2.later hk4
  clear hk4
  clear a0 b0 a1 b1 a2 b2 a3 b3 a4 b4 a5 b5 a6 b6 a7 b7 a8 b8 a9 b9 a10 b10 a11 b11 a12 b12 a13 b13 a14 b14 a15 b15 a16 b16 a17 b17 a18 b18
  obtain ⟨a0, a1, a2, a3, a4, a5, a6, a7, a8, a9, a10, a11, a12, a13, a14, a15, a16, a17, a18⟩ := pk_facts X1
  obtain ⟨b0, b1, b2, b3, b4, b5, b6, b7, b8, b9, b10, b11, b12, b13, b14, b15, b16, b17, b18⟩ := pk_facts X2
  cases tt4
  · go_wp2_with fail
    go_ret
    exact ⟨false, rfl, ⟨fun h => absurd h (by decide), fun h => absurd (HB4.out.2 h.2.2.2.2.2.2.1) (by decide)⟩, HW6⟩
  go_wp2_with fail
  refine Calls.mono ((eqHeads_any p.HA q.HA p.hn p.hc q.hn q.hc p.hs q.hs _ _ _ (HP.out.later HW6).hr (HQ.out.later HW6).hr HP.out.ok.hl HQ.out.ok.hl (by have := FP.out.h; omega) (by have := FQ.out.h; omega))) ?_
  rintro e w5 hq5
  obtain ⟨tt5, rfl, hb5, hk5⟩ := EqP.b hq5
  have HB5 := Lib.hid hb5
  clear hb5
  have HW7 := below_then HW6 hk5
  go_wp2_with fail
  go_ret
  exact ⟨tt5, rfl, ⟨fun h => ⟨h0, h1, h2, HB1.out.1 trivial, HB2.out.1 trivial, HB3.out.1 trivial, HB4.out.1 trivial, HB5.out.1 h⟩, fun h => HB5.out.2 h.2.2.2.2.2.2.2⟩, HW7⟩
end Go.Proofs.Ytbkejlalbjomkaa
