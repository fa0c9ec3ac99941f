/-
  The law DigestOf, walked.
-/
import Derived.Test.YtkdcklkeehiekaaDig9
namespace Go.Proofs.Ytkdcklkeehiekaa
set_option linter.unusedVariables false
open Go.RowKit

/-- What the law has in memory, from the second digest on. -/
structure DOf (w0 : World) (A K : Option Addr) (n kn g1 g2 gx gy : Nat) (xs ks : List Int) (w : World) : Prop where
  b : Below w0.heap.size w0 w
  x : Reads w w.heap.size 1 A n (u8s xs)
  k : Reads w w.heap.size 1 K kn (u8s ks)
  xw : Reads w w.heap.size 1 (some ⟨g1, 0, none⟩) (n + 64) (u8s (wide xs))
  kw : Reads w w.heap.size 1 (some ⟨g2, 0, none⟩) (kn + 64) (u8s (wide ks))
  mx : Blk w gx 27 (u8s (md xs)).toArray
  my : Blk w gy 27 (u8s (md (xs ++ key16 ks))).toArray
theorem DOf.later {w0 w w' : World} {A K : Option Addr} {n kn g1 g2 gx gy : Nat} {xs ks : List Int} (h : DOf w0 A K n kn g1 g2 gx gy xs ks w) (hb : Below w.heap.size w w') : DOf w0 A K n kn g1 g2 gx gy xs ks w' :=
  ⟨below_then h.b hb, h.x.later hb, h.k.later hb, h.xw.later hb, h.kw.later hb, h.mx.later hb, h.my.later hb⟩
theorem md_reads {w : World} {g : Nat} {xs : List Int} (h : Blk w g 27 (u8s (md xs)).toArray) : Reads w w.heap.size 1 (some ⟨g, 0, none⟩) 16 (u8s (md xs)) := by
  have h1 := h.reads (n := 16) (by rw [u8s_length, md_len]; exact Nat.le_refl _)
  rw [List.take_of_length_le (by rw [u8s_length, md_len]; exact Nat.le_refl _)] at h1
  exact h1.more h.lt
theorem md_fits (xs : List Int) : Hid ((u8s (md xs)).toArray.size = 16 ∧ (u8s (md xs)).toArray.all (·.oneCell') = true) := ⟨by simp [u8s_length, md_len], by simp [u8s, Value.oneCell']⟩

set_option maxRecDepth 100000 in
set_option maxHeartbeats 1000000 in
theorem digestOf_walk (A A' : Option Addr) (n c n' c' : Nat) (xs ks : List Int) (w : World) (hx : Reads w w.heap.size 1 A n (u8s xs)) (hy : Reads w w.heap.size 1 A' n' (u8s ks)) (hox : Oct xs) (hok : Oct ks)
    (hc : n ≤ c) (hm : c ≤ 9223372036854775807) (hc' : n' ≤ c') (hm' : c' ≤ 9223372036854775807) :
    Calls Try.prog 4 #[.slice A n c, .slice A' n' c'] w fun e w' => e = .returned (.bool true) ∧ Below w.heap.size w w' := by
  by_cases hbig : 16384 < n
  · go_enter Try.func4, Try.ntmps4
    go_wp2_with (go_at_call 6; refine (lives_any _).mono ?_; rintro e w' ⟨rfl, hb⟩)
    go_ret
    exact ⟨rfl, hb⟩
  by_cases hbig' : 16384 < n'
  · go_enter Try.func4, Try.ntmps4
    go_wp2_with (go_at_call 6; refine (lives_any _).mono ?_; rintro e w' ⟨rfl, hb⟩)
    go_ret
    exact ⟨rfl, hb⟩
  have hlx := Lib.hid hx.u8len
  have hlk := Lib.hid hy.u8len
  go_enter Try.func4, Try.ntmps4
  go_wp2_with fail
  refine (wideBytes_any A n c xs w hx (by omega)).mono ?_
  intro e w1 hw1
  obtain ⟨g1, he1, hW1, hX1, hb1⟩ := wide_reads hlx.out hw1
  subst he1
  clear hw1
  go_wp2_with fail
  refine (wideBytes_any A' n' c' ks w1 (hy.later hb1) (by omega)).mono ?_
  intro e w2 hw2
  obtain ⟨g2, he2, hW2, hY2, hb2⟩ := wide_reads hlk.out hw2
  subst he2
  clear hw2
  have k2 := below_then hb1 hb2
  go_wp2_with fail
  refine (of_any _ n (n + 64) xs w2 (hX1.later hb2) hox (by omega) (by omega) (by omega)).mono ?_
  rintro e w3 ⟨rfl, hb3⟩
  have k3 := below_then k2 hb3
  have F3 := md_fits xs
  go_wp2_with (refine wpList_store_row rfl 27 _ _ rfl w3.heap.size (u8s (md xs)).toArray rfl rfl 27 _ (heap_alloc_new w3 _) (by rw [F3.out.1]; exact i27) (by rw [F3.out.1]; rfl) F3.out.2 ?_; rw [World.setRow_alloc_new])
  have k4 : Below w3.heap.size w3 (w3.alloc (.cells (u8s (md xs)).toArray 27)) := (Below.refl _ _).alloc (Nat.le_refl _) _
  have m4 := Blk.new w3 27 (u8s (md xs)).toArray
  generalize w3.alloc (.cells (u8s (md xs)).toArray 27) = w4 at *
  have k34 := below_then hb3 k4
  have cq := keyed_any (some ⟨g2, 0, none⟩) (some ⟨g1, 0, none⟩) n' (n' + 64) n (n + 64) ks xs w4 (hY2.later k34) (hX1.later (below_then hb2 k34)) hok hox (by omega) (by omega)
  refine cq.mono ?_
  clear cq
  rintro e w5 ⟨rfl, hb5⟩
  clear F3
  have F5 := md_fits (xs ++ key16 ks)
  go_wp2_with (refine wpList_store_row rfl 27 _ _ rfl w5.heap.size (u8s (md (xs ++ key16 ks))).toArray rfl rfl 27 _ (heap_alloc_new w5 _) (by rw [F5.out.1]; exact i27) (by rw [F5.out.1]; rfl) F5.out.2 ?_; rw [World.setRow_alloc_new])
  clear F5
  have HD : Hid (DOf w A A' n n' g1 g2 w3.heap.size w5.heap.size xs ks (w5.alloc (.cells (u8s (md (xs ++ key16 ks))).toArray 27)).drew) := by
    have k6 : Below w5.heap.size w5 (w5.alloc (.cells (u8s (md (xs ++ key16 ks))).toArray 27)).drew := ((Below.refl _ _).alloc (Nat.le_refl _) _).drew
    have k56 := below_then hb5 k6
    have k36 := below_then k34 k56
    have k26 := below_then hb2 k36
    have k16 := below_then hb1 k26
    refine ⟨k16, hx.later k16, hy.later k16, hW1.later k26, hW2.later k36, m4.later k56, ?_⟩
    exact Blk.new w5 27 (u8s (md (xs ++ key16 ks))).toArray
  generalize w3.heap.size = gx at *
  generalize w5.heap.size = gy at *
  clear hx hy hX1 hW1 hW2 hY2 hb1 hb2 hb3 hb5 k2 k3 k34 k4 m4
  refine wp_region_w [(0, true), (1, true), (2, false), (3, false), (4, true), (5, true), (6, true), (7, true), (8, true), (9, false), (10, false), (11, true), (12, true)] (by kernel_rfl) (fun _ d _ _ _ h => by cases d <;> exact h) ?_
  simp only [List.map_cons, List.map_nil, nthOp_zero, nthOp_succ]
  generalize (w5.alloc (.cells (u8s (md (xs ++ key16 ks))).toArray 27)).drew = w6 at *
  refine wpW_take (by rfl) (by intro W; go_simp; try with_reducible rfl) ?_
  refine wpW_take (by rfl) (by intro W; go_simp; try with_reducible rfl) ?_
  refine wpW_do fun K1 hK1 => ?_
  go_wp2_with (go_at_call 14; refine (refOf_any A n c xs _ HD.out.x hox (by omega)).mono ?_; rintro e w7 ⟨v7, rfl, h7⟩; have H7 := Lib.hid h7; clear h7)
  refine hK1.out _ _ ?_
  clear hK1 K1
  have HD7 := Lib.hid (HD.out.later H7.out.2)
  clear HD
  obtain ⟨A7, c7, hv⟩ := H7.out.shape
  rw [md_len] at hv
  subst hv
  have cq := toBelow (eqBytes_any _ _ 16 16 16 c7 (md xs) (md xs) w7 _ _ (md_reads HD7.out.mx) (H7.out.reads (md_len _)) (by omega) (by omega))
  rw [decide_eq_true (rfl : md xs = md xs)] at cq
  have CQ := Lib.hid cq
  clear cq
  refine wpW_do fun K1 hK1 => ?_
  go_wp2_with (go_at_call 10; refine CQ.out.mono ?_; rintro e w8 ⟨rfl, h8⟩; have H8 := Lib.hid h8; clear h8)
  refine hK1.out _ _ ?_
  clear hK1 K1 CQ
  have HD8 := Lib.hid (HD7.out.later H8.out)
  clear HD7 H7 H8
  refine wpW_take (by rfl) (by intro W; go_simp; try with_reducible rfl) ?_
  refine wpW_take (by rfl) (by intro W; go_simp; try with_reducible rfl) ?_
  refine wpW_take (by rfl) (by intro W; go_simp; try with_reducible rfl) ?_
  refine wpW_take (by rfl) (by intro W; go_simp; try with_reducible rfl) ?_
  refine wpW_take (by rfl) (by intro W; go_simp; try with_reducible rfl) ?_
  refine wpW_do fun K1 hK1 => ?_
  go_wp2_with (go_at_call 15; refine (refKeyed_any A' A n' c' n c ks xs _ HD8.out.k HD8.out.x hok hox (by omega) (by omega)).mono ?_; rintro e w9 ⟨v9, rfl, h9⟩; have H9 := Lib.hid h9; clear h9)
  refine hK1.out _ _ ?_
  clear hK1 K1
  have HD9 := Lib.hid (HD8.out.later H9.out.2)
  clear HD8
  obtain ⟨A9, c9, hv⟩ := H9.out.shape
  rw [md_len] at hv
  subst hv
  have cq := toBelow (eqBytes_any _ _ 16 16 16 c9 (md (xs ++ key16 ks)) (md (xs ++ key16 ks)) w9 _ _ (md_reads HD9.out.my) (H9.out.reads (md_len _)) (by omega) (by omega))
  rw [decide_eq_true (rfl : md (xs ++ key16 ks) = md (xs ++ key16 ks))] at cq
  have CQ := Lib.hid cq
  clear cq
  refine wpW_do fun K1 hK1 => ?_
  go_wp2_with (go_at_call 10; refine CQ.out.mono ?_; rintro e w10 ⟨rfl, h8⟩; have H10 := Lib.hid h8; clear h8)
  refine hK1.out _ _ ?_
  clear hK1 K1 CQ
  have HD10 := Lib.hid (HD9.out.later H10.out)
  clear HD9 H9 H10
  refine wpW_take (by rfl) (by intro W; go_simp; try with_reducible rfl) ?_
  refine wpW_take (by rfl) (by intro W; go_simp; try with_reducible rfl) ?_
  refine wpW_nil ?_
  go_wp2_with fail
  have hX1 := HD10.out.xw.u8pre (k := n) (by omega)
  rw [← hlx.out, wide_take, hlx.out] at hX1
  have cq := toBelow (eqBytes_any _ _ _ (n + 64) _ c xs xs _ _ _ hX1 HD10.out.x (by omega) (by omega))
  rw [decide_eq_true (rfl : xs = xs)] at cq
  refine cq.mono ?_
  clear cq hX1
  rintro e w11 ⟨rfl, h11⟩
  have HD11 := Lib.hid (HD10.out.later h11)
  clear HD10 h11
  go_wp2_with fail
  have cq := toBelow (spareBytes_yes _ _ (n + 64) xs _ _ HD11.out.xw hlx.out (by omega) (by omega))
  refine cq.mono ?_
  clear cq
  rintro e w12 ⟨rfl, h11⟩
  have HD12 := Lib.hid (HD11.out.later h11)
  clear HD11 h11
  go_wp2_with fail
  have hX1 := HD12.out.kw.u8pre (k := n') (by omega)
  rw [← hlk.out, wide_take, hlk.out] at hX1
  have cq := toBelow (eqBytes_any _ _ _ (n' + 64) _ c' ks ks _ _ _ hX1 HD12.out.k (by omega) (by omega))
  rw [decide_eq_true (rfl : ks = ks)] at cq
  refine cq.mono ?_
  clear cq hX1
  rintro e w13 ⟨rfl, h11⟩
  have HD13 := Lib.hid (HD12.out.later h11)
  clear HD12 h11
  go_wp2_with fail
  have cq := toBelow (spareBytes_yes _ _ (n' + 64) ks _ _ HD13.out.kw hlk.out (by omega) (by omega))
  refine cq.mono ?_
  clear cq
  rintro e w14 ⟨rfl, h11⟩
  have HD14 := Lib.hid (HD13.out.later h11)
  clear HD13 h11
  go_wp2_with fail
  refine (lives_any w14).mono ?_
  rintro e w15 ⟨rfl, h15⟩
  go_wp2_with fail
  go_ret
  exact ⟨rfl, below_then HD14.out.b h15⟩
end Go.Proofs.Ytkdcklkeehiekaa
