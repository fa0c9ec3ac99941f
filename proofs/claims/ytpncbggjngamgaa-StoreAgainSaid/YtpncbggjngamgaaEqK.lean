/-
  EqKeys; keys of a row; what order.Keys answers of keys in order. Printed by gen_eqk.py.
-/
import Derived.Test.YtpncbggjngamgaaSto4
import Derived.Test.YtpncbggjngamgaaSk1
import Derived.Test.YtpncbggjngamgaaFlat
namespace Go.Proofs.Ytpncbggjngamgaa
set_option linter.unusedVariables false
open Go.RowKit

theorem nth_ne {α : Type} {xs ys : List α} {k : Nat} {x y : α} (h1 : Hid (xs[k]? = some x)) (h2 : Hid (ys[k]? = some y)) (h : x ≠ y) : xs ≠ ys := by
  rintro rfl
  have a := h1.out
  have b := h2.out
  rw [a] at b
  exact h (by injection b)
theorem take_snoc3 {α : Type} {xs ys : List α} {k : Nat} {x y : α} (h1 : Hid (xs[k]? = some x)) (h2 : Hid (ys[k]? = some y)) (h : x = y) (he : Hid (xs.take k = ys.take k)) : Hid (xs.take (k+1) = ys.take (k+1)) := by
  subst h
  have e : xs.take (k+1) = ys.take (k+1) := by rw [List.take_add_one, List.take_add_one, he.out, h1.out, h2.out]
  exact e
theorem cmpK_lt_one {a b : Ky3} (h : ltK a b = true) : cmpK a b = -1 := by
  have h0 := cmpK_lt a b
  rw [h] at h0
  have h1 : cmpK a b < 0 := of_decide_eq_true h0
  have hc : ∀ x y : Int, -1 ≤ cmpI x y := fun x y => by unfold cmpI; split <;> (try split) <;> omega
  have h2 : -1 ≤ cmpK a b := by
    unfold cmpK
    have c1 := hc a.1 b.1
    have c2 := hc a.2.1 b.2.1
    have c3 := hc a.2.2 b.2.2
    generalize cmpI a.1 b.1 = n1 at *
    generalize cmpI a.2.1 b.2.1 = n2 at *
    generalize cmpI a.2.2 b.2.2 = n3 at *
    simp only [firstNZ]
    split
    · split
      · split <;> omega
      · omega
    · omega
  omega
theorem below_grow (w : World) (k : Nat) (os : Array Obj) : Below w.heap.size w (Go.Sort.grow (w.drewN k) os) :=
  ⟨rfl, rfl, rfl, by show w.heap.size ≤ (w.heap ++ os).size; simp, fun i hi => by
    show (w.heap ++ os)[i]? = w.heap[i]?
    rw [Array.getElem?_append_left hi]⟩
theorem exec_key_ne {o : Oper} {ev : Operand → Value} {x y : Operand} {t : TypeId} (ho : o.op = .binOp .neq 45 x y t) (a b : Ky3) (hx : ev x = keyV a) (hy : ev y = keyV b) (W : World) :
    (execOp ev o).run Try.prog W = .ok (.value (.bool (!decide (a = b)))) W := by
  unfold execOp
  simp only [ho]
  rw [hx, hy]
  have e1 : (eqGuard .neq 45 x y (keyV a) (keyV b)).run Try.prog W = .ok () W := run_eqGuard_agg _ _ _ _ _ _ _ Try.eqGuardType45
  simp [binOp, Sem.run_bind, Sem.run_pure, key_eq, e1, Result.andThen_ok]
/-- The cells of a key that stands at an address. -/
def KyAt (w : World) (ad : Addr) (k : Ky3) : Prop := w.cell? ad = some (.int .u8 k.1) ∧ w.cell? ⟨ad.block, ad.off + 1, none⟩ = some (.int .u32 k.2.1) ∧ w.cell? ⟨ad.block, ad.off + 2, none⟩ = some (.int .u32 k.2.2)
theorem KyAt.later {w w' : World} {ad : Addr} {k : Ky3} (h : KyAt w ad k) (hb : Below w.heap.size w w') : KyAt w' ad k := by
  obtain ⟨h0, h1, h2⟩ := h
  have H : ∀ (p : Addr) v, w.cell? p = some v → w'.cell? p = some v := fun p v e => (hb.cell (cell_lt e)).trans e
  exact ⟨H _ _ h0, H _ _ h1, H _ _ h2⟩
/-- A row of keys that can be read. -/
structure Kyl (w : World) (A : Option Addr) (n c : Nat) (ks : List Ky3) : Prop where
  row : Reads w w.heap.size 3 A n (ks.flatMap keyC)
  len : ks.length = n
  cap : n ≤ c ∧ c ≤ 9223372036854775807
theorem Kyl.later {w w' : World} {A : Option Addr} {n c : Nat} {ks : List Ky3} (h : Kyl w A n c ks) (hb : Below w.heap.size w w') : Kyl w' A n c ks := ⟨h.row.later hb, h.len, h.cap⟩
theorem Kyl.at_ {w : World} {A : Option Addr} {n c i : Nat} {ks : List Ky3} (h : Kyl w A n c ks) (hi : i < n) : ∃ ad k, A = some ad ∧ ks[i]? = some k ∧ KyAt w (ad.add (i * 3)) k := by
  obtain ⟨ad, s, e, hb, hs, h0, hj⟩ := rowG_at keyC_len h.row h.len hi
  exact ⟨ad, s, e, hs, h0 _ rfl, hj 1 _ (by decide) rfl, hj 2 _ (by decide) rfl⟩
theorem own_keys {w : World} {base : Nat} {v : Value} {ks : List Ky3} (h : w.ownsRow base 45 3 v ks.length (ks.flatMap keyC)) : ∃ A c, v = .slice A ks.length c ∧ Kyl w A ks.length c ks := by
  obtain ⟨A, c, e, h1, h2, h3⟩ := own_shape_n h
  exact ⟨A, c, e, h3, rfl, h1, h2⟩
set_option maxRecDepth 100000 in
set_option maxHeartbeats 4000000 in
theorem eqKeys_any (A B : Option Addr) (n c m d : Nat) (ks ls : List Ky3) (w : World) (hx : Kyl w A n c ks) (hy : Kyl w B m d ls) :
    Calls Try.prog 14 #[.slice A n c, .slice B m d] w fun e w' => e = .returned (.bool (decide (ks = ls))) ∧ Below w.heap.size w w' := by
  have HX := Lib.hid hx
  have HY := Lib.hid hy
  have hc := hx.cap
  have hd := hy.cap
  clear hx hy
  by_cases hnm : n = m
  · subst hnm
    go_enter Try.func14, Try.ntmps14
    go_wp2
    go_loopw [5] (fun iv wr => ∃ i : Nat, iv = .int .i64 i ∧ i ≤ n ∧ Hid (ks.take i = ls.take i) ∧ Hid (Below w.heap.size w wr)) (fun iv _ => n - (intOf iv).toNat)
    case atStart => exact ⟨0, rfl, Nat.zero_le _, Lib.hid rfl, Lib.hid (Below.refl _ _)⟩
    case round =>
      obtain ⟨i, rfl, hi, htk, hb⟩ := hrel
      by_cases hlt : i < n
      · have hltI : (i : Int) < n := by omega
        obtain ⟨ad, x, hA, hxs, hxa⟩ := HX.out.at_ hlt
        obtain ⟨bd, y, hB, hys, hya⟩ := HY.out.at_ hlt
        subst hA hB
        have HK := Lib.hid (And.intro hxs hys)
        have HS : Hid ((fun W : World => KyAt W (ad.add (i * 3)) x ∧ KyAt W (bd.add (i * 3)) y) wr.drew) := Lib.hid ⟨hxa.later hb.out.drew, hya.later hb.out.drew⟩
        have HB := Lib.hid hb.out.drew
        clear hxs hys hxa hya
        go_wp2
        refine wp_region_s (fun W : World => KyAt W (ad.add (i * 3)) x ∧ KyAt W (bd.add (i * 3)) y) [(0, true), (1, true), (2, true), (4, true), (5, true), (6, true), (3, true), (7, true), (8, true)] (by kernel_rfl) (fun _ d _ _ _ h => by cases d <;> exact h) ?_
        simp only [List.map_cons, List.map_nil, nthOp_zero, nthOp_succ]
        generalize wr.drew = w3 at *
        refine wpS_take HS (by kernel_rfl) (by intro W hW; clear hW; go_simp; try with_reducible rfl) ?_
        refine wpS_take HS (by kernel_rfl) (by intro W hW; clear hW; go_simp; try with_reducible rfl) ?_
        refine wpS_take HS (by kernel_rfl) (by intro W hW; clear hW; go_simp; try with_reducible rfl) ?_
        refine wpS_take HS (by kernel_rfl) (by intro W hW; clear hW; go_simp; try with_reducible rfl) ?_
        refine wpS_take HS (by kernel_rfl) (by intro W hW; clear hW; go_simp; try with_reducible rfl) ?_
        refine wpS_take HS (by kernel_rfl) (by intro W hW; clear hW; go_simp; try with_reducible rfl) ?_
        refine wpS_take HS (by kernel_rfl) (by intro W hW; obtain ⟨q0, q1, q2⟩ := hW.1; go_simp; try with_reducible rfl) ?_
        refine wpS_take HS (by kernel_rfl) (by intro W hW; obtain ⟨q0, q1, q2⟩ := hW.2; go_simp; try with_reducible rfl) ?_
        go_simp
        refine wpS_take HS (by kernel_rfl) (fun W _ => exec_key_ne rfl x y rfl rfl W) ?_
        refine wpS_nil ?_
        by_cases hxy : x = y
        · rw [decide_eq_true hxy]
          have HE := Lib.hid hxy
          clear hxy
          go_wp2
          go_roundw
          case rel => exact ⟨i + 1, by go_num, by omega, take_snoc3 (Lib.hid HK.out.1) (Lib.hid HK.out.2) HE.out htk, HB⟩
          case measure => simp [intOf]; omega
        · rw [decide_eq_false hxy]
          have HE := Lib.hid hxy
          clear hxy
          go_wp2
          go_ret
          exact ⟨by rw [decide_eq_false (nth_ne (Lib.hid HK.out.1) (Lib.hid HK.out.2) HE.out)]; rfl, HB.out⟩
      · obtain rfl : i = n := by omega
        go_wp2
        go_ret
        have h := htk.out
        rw [List.take_of_length_le (by rw [HX.out.len]; exact Nat.le_refl _), List.take_of_length_le (by rw [HY.out.len]; exact Nat.le_refl _)] at h
        exact ⟨by rw [decide_eq_true h]; rfl, hb.out⟩
  · have hne : ks ≠ ls := fun e => hnm (by rw [← HX.out.len, ← HY.out.len, e])
    have dn : ((n : Int) == (m : Int)) = false := by rw [beq_eq_false_iff_ne]; omega
    have dn2 : ((n : Int) != (m : Int)) = true := by simp [bne, dn]
    rw [decide_eq_false hne]
    clear hne
    go_enter Try.func14, Try.ntmps14
    go_wp2
    go_ret
    exact ⟨rfl, Below.refl _ _⟩
end Go.Proofs.Ytpncbggjngamgaa
