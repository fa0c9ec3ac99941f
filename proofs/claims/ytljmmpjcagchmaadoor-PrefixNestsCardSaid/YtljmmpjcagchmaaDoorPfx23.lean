/-
  PrefixNests, walked.
-/
import Derived.Test.YtljmmpjcagchmaaDoorPfx21
import Derived.Test.YtljmmpjcagchmaaDoorPfxNest
namespace Go.Proofs.YtljmmpjcagchmaaDoor
set_option linter.unusedVariables false
open Go.RowKit

structure NS (g h : Nat) (p q : Pf) (W : World) : Prop where
  cp : Blk W g 31 (cellsP p)
  cq : Blk W h 31 (cellsP q)
theorem NS.later {g h : Nat} {p q : Pf} {W W' : World} (s : NS g h p q W) (hb : Below W.heap.size W W') : NS g h p q W' := ⟨s.cp.later hb, s.cq.later hb⟩
theorem NS.facts {g h : Nat} {p q : Pf} {W : World} (s : NS g h p q W) : W.cell? ⟨g, 0, none⟩ = some (.int .u32 p.a) ∧ W.cell? ⟨g, 1, none⟩ = some (.int .u8 p.n) ∧ W.cell? ⟨h, 0, none⟩ = some (.int .u32 q.a) ∧ W.cell? ⟨h, 1, none⟩ = some (.int .u8 q.n) :=
  ⟨s.cp.cell 0, s.cp.cell 1, s.cq.cell 0, s.cq.cell 1⟩
theorem NS.of {g : Nat} {p q : Pf} {W : World} (h : Blk W g 31 (cellsP p)) : NS g W.heap.size p q (W.alloc (.cells (cellsP q) 31)) := ⟨h.alloc _, Blk.new W _ _⟩
theorem below_box {w W : World} {o : Obj} (h : Below w.heap.size w W) : Below w.heap.size w (W.alloc o) := h.alloc h.size o
theorem str_bytes (s : ByteArray) : str (bytesOf s) = .string s := rfl
/-- What is read of a text. -/
theorem parse_three (s : ByteArray) : (∃ p : Pf, parseP (bytesOf s) = (p, 0) ∧ adP 3 (bytesOf s) 0 = none ∧ textL p.a p.n = bytesOf s ∧ p.ok) ∨
    (∃ (p : Pf) (e : Int) (a : Nat), parseP (bytesOf s) = (p, e) ∧ e ≠ 0 ∧ adP 3 (bytesOf s) 0 = some a ∧ dotL a = bytesOf s ∧ a < 4294967296) ∨
    (∃ (p : Pf) (e : Int), parseP (bytesOf s) = (p, e) ∧ e ≠ 0 ∧ adP 3 (bytesOf s) 0 = none) := by
  generalize hl : bytesOf s = l
  obtain ⟨⟨p, e⟩, hp⟩ : ∃ q, parseP l = q := ⟨_, rfl⟩
  rw [hp]
  by_cases he : e = 0
  · subst he
    have h := text_parse hp
    exact .inl ⟨p, rfl, parse_or_addr hp, h.1, ⟨h.2.1, by have := h.2.2.1; omega⟩⟩
  · cases ha : adP 3 l 0 with
    | none => exact .inr (.inr ⟨p, e, rfl, he, rfl⟩)
    | some a => exact .inr (.inl ⟨p, e, a, rfl, he, rfl, addr_text ha, adP_lt ha⟩)
set_option maxRecDepth 100000 in
set_option maxHeartbeats 16000000 in
theorem nests_TT (a b n m : Nat) (s : ByteArray) (w : World) (ha : a < 4294967296) (hb : b < 4294967296) (hs : ¬ 2147483647 < s.size) (hE : Env w)
    (zc : covP (a &&& maskN (n % 33)) (n % 33) (b &&& maskN (m % 33)) (m % 33) = true) (zd : covP (b &&& maskN (m % 33)) (m % 33) (a &&& maskN (n % 33)) (n % 33) = true) (zh : hasP (b &&& maskN (m % 33)) (m % 33) a = true) :
    Calls Tryd.prog 5 #[.int .u32 a, .int .u32 b, .int .u8 n, .int .u8 m, .string s] w fun e w' => e = .returned (.bool true) ∧ Below w.heap.size w w' := by
  have HE := Lib.hid hE
  have hkI : Int.tmod (n : Int) 33 = ((n % 33 : Nat) : Int) := by rw [Int.tmod_eq_emod_of_nonneg (by omega)]; omega
  have hmI : Int.tmod (m : Int) 33 = ((m % 33 : Nat) : Int) := by rw [Int.tmod_eq_emod_of_nonneg (by omega)]; omega
  have hk : n % 33 ≤ 32 := by omega
  have hm : m % 33 ≤ 32 := by omega
  generalize n % 33 = k at *
  generalize m % 33 = l at *
  obtain ⟨hxy, hkl⟩ := cov_both zc zd
  subst hkl
  have hx := isP_and ha hk
  have hy := isP_and hb hm
  have hxa := hasP_and ha hk
  have hxm := isP_mul hx
  have hm1 := mk_yes (a := a) hk
  have hm2 := mk_yes (a := b) hm
  have hand := u32_and_nat a (maskN k) ha (maskN_lt k)
  have hbits := bitsN_yes hk rfl
  have HP1 : Hid (∀ W : World, Calls Tryd.prog 22 #[.int .u32 a, .int .u8 k] W fun e w' => e = .returned (.tuple #[.agg #[.int .u32 (a &&& maskN k : Nat), .int .u8 k], .int .i64 0]) ∧ Below W.heap.size W w') := Lib.hid (fun W => by have := make_any a k W ha (by omega); rw [hm1] at this; exact this)
  have HP2 : Hid (∀ W : World, Calls Tryd.prog 22 #[.int .u32 b, .int .u8 k] W fun e w' => e = .returned (.tuple #[.agg #[.int .u32 (b &&& maskN k : Nat), .int .u8 k], .int .i64 0]) ∧ Below W.heap.size W w') := Lib.hid (fun W => by have := make_any b k W hb (by omega); rw [hm2] at this; exact this)
  have HQ1 := Lib.hid (fun W => mask_any k W (by omega))
  have HQ2 : Hid (∀ W : World, Calls Tryd.prog 27 #[.int .u32 (maskN k)] W fun e w' => e = .returned (.tuple #[.int .u8 k, .bool true]) ∧ W = w') := Lib.hid (fun W => by have := bits_any (maskN k) W (maskN_lt k); rw [hbits] at this; exact this)
  have hlx : a &&& maskN k < 4294967296 := Nat.lt_of_le_of_lt Nat.and_le_left ha
  have hly : b &&& maskN k < 4294967296 := Nat.lt_of_le_of_lt Nat.and_le_left hb
  clear hm1 hm2 hbits hE
  generalize a &&& maskN k = x at *
  generalize b &&& maskN k = y at *
  generalize maskN k = M at *
  have px : (Pf.mk x k).ok := ⟨hlx, by simp only; omega⟩
  have py : (Pf.mk y k).ok := ⟨hly, by simp only; omega⟩
  subst hxy
  have HH : Hid (∀ W : World, Calls Tryd.prog 23 #[.agg #[.int .u32 x, .int .u8 k], .int .u32 a] W fun e w' => e = .returned (.bool true) ∧ Below W.heap.size W w') := Lib.hid (fun W => by have := has_any ⟨x, k⟩ a W px ha; rw [hxa] at this; exact this)
  have HV0 : Hid (∀ W : World, Calls Tryd.prog 24 #[.agg #[.int .u32 x, .int .u8 k], .agg #[.int .u32 x, .int .u8 k]] W fun e w' => e = .returned (.bool true) ∧ Below W.heap.size W w') := Lib.hid (fun W => by have := covers_any ⟨x, k⟩ ⟨x, k⟩ W px px; rw [covP_self hx] at this; exact this)
  have HO1 : Hid (∀ W : World, Calls Tryd.prog 25 #[.agg #[.int .u32 x, .int .u8 k], .agg #[.int .u32 x, .int .u8 k]] W fun e w' => e = .returned (.bool true) ∧ Below W.heap.size W w') := Lib.hid (fun W => by have := overlap_any ⟨x, k⟩ ⟨x, k⟩ W px px; rw [show overP _ _ _ _ = true by simp [overP, zc, zd]] at this; exact this)
  have HO2 : Hid (∀ W : World, Calls Tryd.prog 25 #[.agg #[.int .u32 x, .int .u8 k], .agg #[.int .u32 x, .int .u8 k]] W fun e w' => e = .returned (.bool true) ∧ Below W.heap.size W w') := Lib.hid (fun W => by have := overlap_any ⟨x, k⟩ ⟨x, k⟩ W px px; rw [show overP _ _ _ _ = true by simp [overP, zc, zd]] at this; exact this)
  have HV1 : Hid (∀ W : World, Calls Tryd.prog 24 #[.agg #[.int .u32 x, .int .u8 k], .agg #[.int .u32 x, .int .u8 k]] W fun e w' => e = .returned (.bool true) ∧ Below W.heap.size W w') := Lib.hid (fun W => by have := covers_any ⟨x, k⟩ ⟨x, k⟩ W px px; rw [zc] at this; exact this)
  have HV2 : Hid (∀ W : World, Calls Tryd.prog 24 #[.agg #[.int .u32 x, .int .u8 k], .agg #[.int .u32 x, .int .u8 k]] W fun e w' => e = .returned (.bool true) ∧ Below W.heap.size W w') := Lib.hid (fun W => by have := covers_any ⟨x, k⟩ ⟨x, k⟩ W px px; rw [zd] at this; exact this)
  have HH2 : Hid (∀ W : World, Calls Tryd.prog 23 #[.agg #[.int .u32 x, .int .u8 k], .int .u32 a] W fun e w' => e = .returned (.bool true) ∧ Below W.heap.size W w') := Lib.hid (fun W => by have := has_any ⟨x, k⟩ a W px ha; rw [zh] at this; exact this)
  have HT : Hid (∀ W : World, Env W → Calls Tryd.prog 20 #[.agg #[.int .u32 x, .int .u8 k]] W fun e w' => e = .returned (.string ⟨(textL x k).toArray⟩) ∧ Below W.heap.size W w') := Lib.hid (fun W h => text_any ⟨x, k⟩ W px h)
  have HR : Hid (∀ W : World, Env W → Calls Tryd.prog 16 #[.string ⟨(textL x k).toArray⟩] W fun e w' => e = .returned (.tuple #[.agg #[.int .u32 x, .int .u8 k], .int .i64 0]) ∧ Below W.heap.size W w') := Lib.hid (fun W h => by have := parse_any W ⟨(textL x k).toArray⟩ (by have := textL_len x k; simp only [ByteArray.size, List.size_toArray]; omega) h; rw [show bytesOf ⟨(textL x k).toArray⟩ = textL x k from rfl, parse_text hlx hx] at this; exact this)
  have HD : Hid (∀ W : World, Env W → Calls Tryd.prog 18 #[.int .u32 b] W fun e w' => e = .returned (.string ⟨(dotL b).toArray⟩) ∧ Below W.heap.size W w') := Lib.hid (fun W h => dotted_any b W hb h)
  have HA : Hid (∀ W : World, Calls Tryd.prog 14 #[.string ⟨(dotL b).toArray⟩] W fun e w' => e = .returned (.tuple #[.int .u32 b, .int .i64 0]) ∧ Below W.heap.size W w') := Lib.hid (fun W => by have := address_any W ⟨(dotL b).toArray⟩ (by have := dotL_len b; simp only [ByteArray.size, List.size_toArray]; omega); rw [show bytesOf ⟨(dotL b).toArray⟩ = dotL b from rfl, adP_dotL hb] at this; exact this)
  have HH3 : Hid (∀ W : World, Calls Tryd.prog 23 #[.agg #[.int .u32 x, .int .u8 k], .int .u32 x] W fun e w' => e = .returned (.bool true) ∧ Below W.heap.size W w') := Lib.hid (fun W => by have := has_any ⟨x, k⟩ x W px hlx; rw [(covP_le zc).2.1] at this; exact this)
  have HL : Hid (∀ W : World, Env W → Calls Tryd.prog 7 #[] W fun e w' => e = .returned (.bool true) ∧ Below W.heap.size W w') := fun W h => lives_any W h
  have HG := Lib.hid (fun W => long_any s.size W hs)
  have hsz : s.size ≤ 1099511627776 := by omega
  have HZ1 := Lib.hid (fun W => parse_any W s hsz)
  have HZ2 := Lib.hid (fun W => address_any W s hsz)
  have H3 := Lib.hid (parse_three s)
  clear px zc zd zh hx hxm hlx hxa hs hsz ha hb
  have HB0 := Lib.hid (Below.refl w.heap.size w)
  go_enter Tryd.func5, Tryd.ntmps5
  go_wp2_with fail
  refine (HG.out _).mono ?_
  rintro e w_ ⟨rfl, rfl⟩
  go_wp2_with fail
  refine (HP1.out _).mono ?_
  rintro e v2 ⟨rfl, hb⟩
  have HB2 := Lib.hid (below_then HB0.out hb)
  clear hb HB0
  go_wp2_with fail
  have HK1 : Hid (Blk (v2.alloc (.cells #[.int .u32 x, .int .u8 k] 31)) v2.heap.size 31 (cellsP ⟨x, k⟩)) := Lib.hid (Blk.new _ _ _)
  have HBx := Lib.hid (below_box (o := (.cells #[.int .u32 x, .int .u8 k] 31)) HB2.out)
  refine (HP2.out _).mono ?_
  rintro e v3 ⟨rfl, hb⟩
  have HBy := Lib.hid (below_box (o := (.cells #[.int .u32 x, .int .u8 k] 31)) (below_then HBx.out hb))
  have HSy : Hid (NS v2.heap.size v3.heap.size ⟨x, k⟩ ⟨x, k⟩ (v3.alloc (.cells #[.int .u32 x, .int .u8 k] 31))) := Lib.hid (NS.of (HK1.out.later hb))
  have hq := HSy.out.facts
  obtain ⟨f1, f2, f3, f4⟩ := hq
  clear hb HBx HK1 HB2
  go_wp2_with fail
  generalize v3.alloc (.cells #[.int .u32 x, .int .u8 k] 31) = vy at *
  generalize v2.heap.size = g1 at *
  generalize v3.heap.size = g2 at *
  clear v2 v3
  refine (HH.out _).mono ?_
  rintro e v4 ⟨rfl, hb⟩
  have HB4 := Lib.hid (below_then HBy.out hb)
  have HS4 : Hid (NS g1 g2 ⟨x, k⟩ ⟨x, k⟩ v4) := Lib.hid (HSy.out.later hb)
  clear hb HSy HBy f1 f2 f3 f4
  obtain ⟨f1, f2, f3, f4⟩ := HS4.out.facts
  go_wp2_with fail
  refine (HV0.out _).mono ?_
  rintro e v5 ⟨rfl, hb⟩
  have HB5 := Lib.hid (below_then HB4.out hb)
  have HS5 : Hid (NS g1 g2 ⟨x, k⟩ ⟨x, k⟩ v5) := Lib.hid (HS4.out.later hb)
  clear hb HS4 HB4 f1 f2 f3 f4
  obtain ⟨f1, f2, f3, f4⟩ := HS5.out.facts
  go_wp2_with fail
  refine (HO1.out _).mono ?_
  rintro e v6 ⟨rfl, hb⟩
  have HB6 := Lib.hid (below_then HB5.out hb)
  have HS6 : Hid (NS g1 g2 ⟨x, k⟩ ⟨x, k⟩ v6) := Lib.hid (HS5.out.later hb)
  clear hb HS5 HB5 f1 f2 f3 f4
  obtain ⟨f1, f2, f3, f4⟩ := HS6.out.facts
  go_wp2_with fail
  refine (HO2.out _).mono ?_
  rintro e v7 ⟨rfl, hb⟩
  have HB7 := Lib.hid (below_then HB6.out hb)
  have HS7 : Hid (NS g1 g2 ⟨x, k⟩ ⟨x, k⟩ v7) := Lib.hid (HS6.out.later hb)
  clear hb HS6 HB6 f1 f2 f3 f4
  obtain ⟨f1, f2, f3, f4⟩ := HS7.out.facts
  go_wp2_with fail
  refine (HV1.out _).mono ?_
  rintro e v8 ⟨rfl, hb⟩
  have HB8 := Lib.hid (below_then HB7.out hb)
  have HS8 : Hid (NS g1 g2 ⟨x, k⟩ ⟨x, k⟩ v8) := Lib.hid (HS7.out.later hb)
  clear hb HS7 HB7 f1 f2 f3 f4
  obtain ⟨f1, f2, f3, f4⟩ := HS8.out.facts
  go_wp2_with fail
  refine (HV1.out _).mono ?_
  rintro e v9 ⟨rfl, hb⟩
  have HB9 := Lib.hid (below_then HB8.out hb)
  have HS9 : Hid (NS g1 g2 ⟨x, k⟩ ⟨x, k⟩ v9) := Lib.hid (HS8.out.later hb)
  clear hb HS8 HB8 f1 f2 f3 f4
  obtain ⟨f1, f2, f3, f4⟩ := HS9.out.facts
  go_wp2_with fail
  refine (HH3.out _).mono ?_
  rintro e v10 ⟨rfl, hb⟩
  have HB10 := Lib.hid (below_then HB9.out hb)
  have HS10 : Hid (NS g1 g2 ⟨x, k⟩ ⟨x, k⟩ v10) := Lib.hid (HS9.out.later hb)
  clear hb HS9 HB9 f1 f2 f3 f4
  obtain ⟨f1, f2, f3, f4⟩ := HS10.out.facts
  go_wp2_with fail
  clear f1 f2 f3 f4
  refine wp_region_s (NS g1 g2 ⟨x, k⟩ ⟨x, k⟩) [(0, true), (1, true), (2, false), (3, true), (4, true), (5, true), (7, true), (8, true), (9, true), (6, false), (10, true), (11, true), (12, true), (14, true), (13, true), (15, false), (16, true), (17, true), (18, true), (19, true), (20, true)] (by kernel_rfl) (fun _ d _ _ _ h => by cases d <;> exact h) ?_
  simp only [List.map_cons, List.map_nil, nthOp_zero, nthOp_succ]
  have HSr := Lib.hid (HS10.out.later (Below.refl _ _).drew)
  have HBr := Lib.hid (HB10.out.drew)
  generalize v10.drew = vr at *
  clear HS10 HB10 v10
  refine wpS_take HSr (by kernel_rfl) (by intro W hW; have q0 := hW.facts; obtain ⟨_, _, _, _⟩ := q0; clear hW; go_simp; try with_reducible rfl) ?_
  refine wpS_take HSr (by kernel_rfl) (by intro W hW; have q0 := hW.facts; obtain ⟨_, _, _, _⟩ := q0; clear hW; go_simp; try with_reducible rfl) ?_
  try go_simp
  refine wpS_do fun K11 hK11 => ?_
  go_wp2_with fail
  refine (HV1.out _).mono ?_
  rintro e v11 ⟨rfl, hb11⟩
  have HS11 : Hid (NS g1 g2 ⟨x, k⟩ ⟨x, k⟩ v11) := Lib.hid (HSr.out.later hb11)
  have HB11 := Lib.hid (below_then HBr.out hb11)
  clear hb11 HSr HBr
  go_wp2_with fail
  refine hK11.out _ _ HS11.out ?_
  clear hK11 K11
  refine wpS_take HS11 (by kernel_rfl) (by intro W hW; clear hW; go_simp; try with_reducible rfl) ?_
  refine wpS_take HS11 (by kernel_rfl) (by intro W hW; have q0 := hW.facts; obtain ⟨_, _, _, _⟩ := q0; clear hW; go_simp; try with_reducible rfl) ?_
  refine wpS_take HS11 (by kernel_rfl) (by intro W hW; have q0 := hW.facts; obtain ⟨_, _, _, _⟩ := q0; clear hW; go_simp; try with_reducible rfl) ?_
  refine wpS_take HS11 (by kernel_rfl) (by intro W hW; have q0 := hW.facts; obtain ⟨_, _, _, _⟩ := q0; clear hW; go_simp; try with_reducible rfl) ?_
  refine wpS_take HS11 (by kernel_rfl) (by intro W hW; have q0 := hW.facts; obtain ⟨_, _, _, _⟩ := q0; clear hW; go_simp; try with_reducible rfl) ?_
  refine wpS_take HS11 (by kernel_rfl) (by intro W hW; clear hW; go_simp; try with_reducible rfl) ?_
  try go_simp
  refine wpS_do fun K12 hK12 => ?_
  go_wp2_with fail
  refine (HV2.out _).mono ?_
  rintro e v12 ⟨rfl, hb12⟩
  have HS12 : Hid (NS g1 g2 ⟨x, k⟩ ⟨x, k⟩ v12) := Lib.hid (HS11.out.later hb12)
  have HB12 := Lib.hid (below_then HB11.out hb12)
  clear hb12 HS11 HB11
  go_wp2_with fail
  refine hK12.out _ _ HS12.out ?_
  clear hK12 K12
  refine wpS_take HS12 (by kernel_rfl) (by intro W hW; clear hW; go_simp; try with_reducible rfl) ?_
  refine wpS_take HS12 (by kernel_rfl) (by intro W hW; clear hW; go_simp; try with_reducible rfl) ?_
  refine wpS_take HS12 (by kernel_rfl) (by intro W hW; clear hW; go_simp; try with_reducible rfl) ?_
  refine wpS_take HS12 (by kernel_rfl) (by intro W hW; clear hW; go_simp; try with_reducible rfl) ?_
  refine wpS_take HS12 (by kernel_rfl) (by intro W hW; have q0 := hW.facts; obtain ⟨_, _, _, _⟩ := q0; clear hW; go_simp; try with_reducible rfl) ?_
  try go_simp
  refine wpS_do fun K13 hK13 => ?_
  go_wp2_with fail
  refine (HH2.out _).mono ?_
  rintro e v13 ⟨rfl, hb13⟩
  have HS13 : Hid (NS g1 g2 ⟨x, k⟩ ⟨x, k⟩ v13) := Lib.hid (HS12.out.later hb13)
  have HB13 := Lib.hid (below_then HB12.out hb13)
  clear hb13 HS12 HB12
  go_wp2_with fail
  refine hK13.out _ _ HS13.out ?_
  clear hK13 K13
  refine wpS_take HS13 (by kernel_rfl) (by intro W hW; clear hW; go_simp; try with_reducible rfl) ?_
  refine wpS_take HS13 (by kernel_rfl) (by intro W hW; clear hW; go_simp; try with_reducible rfl) ?_
  refine wpS_take HS13 (by kernel_rfl) (by intro W hW; clear hW; go_simp; try with_reducible rfl) ?_
  refine wpS_take HS13 (by kernel_rfl) (by intro W hW; clear hW; go_simp; try with_reducible rfl) ?_
  refine wpS_take HS13 (by kernel_rfl) (by intro W hW; clear hW; go_simp; try with_reducible rfl) ?_
  refine wpS_nil ?_
  try go_simp
  obtain ⟨f1, f2, f3, f4⟩ := HS13.out.facts
  go_wp2_with fail
  refine (HT.out _ (HE.out.later HB13.out)).mono ?_
  rintro e v14 ⟨rfl, hb⟩
  have HB14 := Lib.hid (below_then HB13.out hb)
  have HS14 : Hid (NS g1 g2 ⟨x, k⟩ ⟨x, k⟩ v14) := Lib.hid (HS13.out.later hb)
  clear hb HS13 HB13 f1 f2 f3 f4
  obtain ⟨f1, f2, f3, f4⟩ := HS14.out.facts
  go_wp2_with fail
  refine (HR.out _ (HE.out.later HB14.out)).mono ?_
  rintro e v15 ⟨rfl, hb⟩
  have HBz := Lib.hid (below_box (o := (.cells #[.int .u32 x, .int .u8 k] 31)) (below_then HB14.out hb))
  have HSz : Hid (NS g1 v15.heap.size ⟨x, k⟩ ⟨x, k⟩ (v15.alloc (.cells #[.int .u32 x, .int .u8 k] 31))) := Lib.hid (NS.of (HS14.out.later hb).cp)
  clear hb HS14 HB14 f1 f2 f3 f4
  obtain ⟨f1, f2, f3, f4⟩ := HSz.out.facts
  go_wp2_with fail
  generalize v15.alloc (.cells #[.int .u32 x, .int .u8 k] 31) = vz at *
  generalize v15.heap.size = g3 at *
  refine (HD.out _ (HE.out.later HBz.out)).mono ?_
  rintro e v16 ⟨rfl, hb⟩
  have HB16 := Lib.hid (below_then HBz.out hb)
  have HS16 : Hid (NS g1 g3 ⟨x, k⟩ ⟨x, k⟩ v16) := Lib.hid (HSz.out.later hb)
  clear hb HSz HBz f1 f2 f3 f4
  obtain ⟨f1, f2, f3, f4⟩ := HS16.out.facts
  go_wp2_with fail
  refine (HA.out _).mono ?_
  rintro e v17 ⟨rfl, hb⟩
  have HB17 := Lib.hid (below_then HB16.out hb)
  have HS17 : Hid (NS g1 g3 ⟨x, k⟩ ⟨x, k⟩ v17) := Lib.hid (HS16.out.later hb)
  clear hb HS16 HB16 f1 f2 f3 f4
  obtain ⟨f1, f2, f3, f4⟩ := HS17.out.facts
  go_wp2_with fail
  rcases H3.out with ⟨⟨u, v⟩, e1, e2, e3, e4⟩ | ⟨⟨u, v⟩, ge, ad, e1, he, e2, e3, e4⟩ | ⟨⟨u, v⟩, ge, e1, he, e2⟩
  · rw [e1, outP_ok] at HZ1
    rw [e2] at HZ2
    simp only [outN] at HZ2
    have HTy : Hid (∀ W : World, Env W → Calls Tryd.prog 20 #[.agg #[.int .u32 u, .int .u8 v]] W fun e w' => e = .returned (.string s) ∧ Below W.heap.size W w') := Lib.hid (fun W h => by have := text_any ⟨u, v⟩ W e4 h; simp only at this e3; rw [e3] at this; exact this)
    clear e1 e2 e3 e4 H3
    refine (HZ1.out _ (HE.out.later HB17.out)).mono ?_
    rintro e v18 ⟨rfl, hb⟩
    have HBu := Lib.hid (below_box (o := (.cells #[.int .u32 u, .int .u8 v] 31)) (below_then HB17.out hb))
    have HSu : Hid (NS g1 v18.heap.size ⟨x, k⟩ ⟨u, v⟩ (v18.alloc (.cells #[.int .u32 u, .int .u8 v] 31))) := Lib.hid (NS.of (HS17.out.later hb).cp)
    clear hb HS17 HB17 f1 f2 f3 f4
    obtain ⟨f1, f2, f3, f4⟩ := HSu.out.facts
    go_wp2_with fail
    generalize v18.alloc (.cells #[.int .u32 u, .int .u8 v] 31) = vu at *
    generalize v18.heap.size = g4 at *
    refine (HZ2.out _).mono ?_
    rintro e v19 ⟨rfl, hb⟩
    have HB19 := Lib.hid (below_then HBu.out hb)
    have HS19 : Hid (NS g1 g4 ⟨x, k⟩ ⟨u, v⟩ v19) := Lib.hid (HSu.out.later hb)
    clear hb HSu HBu f1 f2 f3 f4
    obtain ⟨f1, f2, f3, f4⟩ := HS19.out.facts
    go_wp2_with fail
    refine (HTy.out _ (HE.out.later HB19.out)).mono ?_
    rintro e v20 ⟨rfl, hb⟩
    have HB20 := Lib.hid (below_then HB19.out hb)
    have HS20 : Hid (NS g1 g4 ⟨x, k⟩ ⟨u, v⟩ v20) := Lib.hid (HS19.out.later hb)
    clear hb HS19 HB19 f1 f2 f3 f4
    obtain ⟨f1, f2, f3, f4⟩ := HS20.out.facts
    go_wp2_with fail
    refine (HQ1.out _).mono ?_
    rintro e w_ ⟨rfl, rfl⟩
    go_wp2_with fail
    refine (HQ2.out _).mono ?_
    rintro e w_ ⟨rfl, rfl⟩
    go_wp2_with fail
    refine (HL.out _ (HE.out.later HB20.out)).mono ?_
    rintro e v23 ⟨rfl, hb⟩
    have HB23 := Lib.hid (below_then HB20.out hb)
    have HS23 : Hid (NS g1 g4 ⟨x, k⟩ ⟨u, v⟩ v23) := Lib.hid (HS20.out.later hb)
    clear hb HS20 HB20 f1 f2 f3 f4
    obtain ⟨f1, f2, f3, f4⟩ := HS23.out.facts
    go_wp2_with fail
    go_ret
    exact ⟨rfl, HB23.out⟩
  · rw [e1, outP_ok] at HZ1
    rw [e2] at HZ2
    simp only [outN] at HZ2
    have HDy : Hid (∀ W : World, Env W → Calls Tryd.prog 18 #[.int .u32 ad] W fun e w' => e = .returned (.string s) ∧ Below W.heap.size W w') := Lib.hid (fun W h => by have := dotted_any ad W e4 h; rw [e3] at this; exact this)
    have he2 : (ge == 0) = false := by rw [beq_eq_false_iff_ne]; exact he
    clear e1 e2 e3 e4 H3
    refine (HZ1.out _ (HE.out.later HB17.out)).mono ?_
    rintro e v18 ⟨rfl, hb⟩
    have HBu := Lib.hid (below_box (o := (.cells #[.int .u32 u, .int .u8 v] 31)) (below_then HB17.out hb))
    have HSu : Hid (NS g1 v18.heap.size ⟨x, k⟩ ⟨u, v⟩ (v18.alloc (.cells #[.int .u32 u, .int .u8 v] 31))) := Lib.hid (NS.of (HS17.out.later hb).cp)
    clear hb HS17 HB17 f1 f2 f3 f4
    obtain ⟨f1, f2, f3, f4⟩ := HSu.out.facts
    go_wp2_with fail
    generalize v18.alloc (.cells #[.int .u32 u, .int .u8 v] 31) = vu at *
    generalize v18.heap.size = g4 at *
    refine (HZ2.out _).mono ?_
    rintro e v19 ⟨rfl, hb⟩
    have HB19 := Lib.hid (below_then HBu.out hb)
    have HS19 : Hid (NS g1 g4 ⟨x, k⟩ ⟨u, v⟩ v19) := Lib.hid (HSu.out.later hb)
    clear hb HSu HBu f1 f2 f3 f4
    obtain ⟨f1, f2, f3, f4⟩ := HS19.out.facts
    go_wp2_with fail
    refine (HDy.out _ (HE.out.later HB19.out)).mono ?_
    rintro e v20 ⟨rfl, hb⟩
    have HB20 := Lib.hid (below_then HB19.out hb)
    have HS20 : Hid (NS g1 g4 ⟨x, k⟩ ⟨u, v⟩ v20) := Lib.hid (HS19.out.later hb)
    clear hb HS19 HB19 f1 f2 f3 f4
    obtain ⟨f1, f2, f3, f4⟩ := HS20.out.facts
    go_wp2_with fail
    refine (HQ1.out _).mono ?_
    rintro e w_ ⟨rfl, rfl⟩
    go_wp2_with fail
    refine (HQ2.out _).mono ?_
    rintro e w_ ⟨rfl, rfl⟩
    go_wp2_with fail
    refine (HL.out _ (HE.out.later HB20.out)).mono ?_
    rintro e v23 ⟨rfl, hb⟩
    have HB23 := Lib.hid (below_then HB20.out hb)
    have HS23 : Hid (NS g1 g4 ⟨x, k⟩ ⟨u, v⟩ v23) := Lib.hid (HS20.out.later hb)
    clear hb HS20 HB20 f1 f2 f3 f4
    obtain ⟨f1, f2, f3, f4⟩ := HS23.out.facts
    go_wp2_with fail
    go_ret
    exact ⟨rfl, HB23.out⟩
  · rw [e1, outP_ok] at HZ1
    rw [e2] at HZ2
    simp only [outN] at HZ2
    have he2 : (ge == 0) = false := by rw [beq_eq_false_iff_ne]; exact he
    clear e1 e2 H3
    refine (HZ1.out _ (HE.out.later HB17.out)).mono ?_
    rintro e v18 ⟨rfl, hb⟩
    have HBu := Lib.hid (below_box (o := (.cells #[.int .u32 u, .int .u8 v] 31)) (below_then HB17.out hb))
    have HSu : Hid (NS g1 v18.heap.size ⟨x, k⟩ ⟨u, v⟩ (v18.alloc (.cells #[.int .u32 u, .int .u8 v] 31))) := Lib.hid (NS.of (HS17.out.later hb).cp)
    clear hb HS17 HB17 f1 f2 f3 f4
    obtain ⟨f1, f2, f3, f4⟩ := HSu.out.facts
    go_wp2_with fail
    generalize v18.alloc (.cells #[.int .u32 u, .int .u8 v] 31) = vu at *
    generalize v18.heap.size = g4 at *
    refine (HZ2.out _).mono ?_
    rintro e v19 ⟨rfl, hb⟩
    have HB19 := Lib.hid (below_then HBu.out hb)
    have HS19 : Hid (NS g1 g4 ⟨x, k⟩ ⟨u, v⟩ v19) := Lib.hid (HSu.out.later hb)
    clear hb HSu HBu f1 f2 f3 f4
    obtain ⟨f1, f2, f3, f4⟩ := HS19.out.facts
    go_wp2_with fail
    refine (HQ1.out _).mono ?_
    rintro e w_ ⟨rfl, rfl⟩
    go_wp2_with fail
    refine (HQ2.out _).mono ?_
    rintro e w_ ⟨rfl, rfl⟩
    go_wp2_with fail
    refine (HL.out _ (HE.out.later HB19.out)).mono ?_
    rintro e v22 ⟨rfl, hb⟩
    have HB22 := Lib.hid (below_then HB19.out hb)
    have HS22 : Hid (NS g1 g4 ⟨x, k⟩ ⟨u, v⟩ v22) := Lib.hid (HS19.out.later hb)
    clear hb HS19 HB19 f1 f2 f3 f4
    obtain ⟨f1, f2, f3, f4⟩ := HS22.out.facts
    go_wp2_with fail
    go_ret
    exact ⟨rfl, HB22.out⟩
set_option maxRecDepth 100000 in
set_option maxHeartbeats 16000000 in
theorem nests_TF1 (a b n m : Nat) (s : ByteArray) (w : World) (ha : a < 4294967296) (hb : b < 4294967296) (hs : ¬ 2147483647 < s.size) (hE : Env w)
    (zc : covP (a &&& maskN (n % 33)) (n % 33) (b &&& maskN (m % 33)) (m % 33) = true) (zd : covP (b &&& maskN (m % 33)) (m % 33) (a &&& maskN (n % 33)) (n % 33) = false) (zh : hasP (b &&& maskN (m % 33)) (m % 33) a = true) :
    Calls Tryd.prog 5 #[.int .u32 a, .int .u32 b, .int .u8 n, .int .u8 m, .string s] w fun e w' => e = .returned (.bool true) ∧ Below w.heap.size w w' := by
  have HE := Lib.hid hE
  have hkI : Int.tmod (n : Int) 33 = ((n % 33 : Nat) : Int) := by rw [Int.tmod_eq_emod_of_nonneg (by omega)]; omega
  have hmI : Int.tmod (m : Int) 33 = ((m % 33 : Nat) : Int) := by rw [Int.tmod_eq_emod_of_nonneg (by omega)]; omega
  have hk : n % 33 ≤ 32 := by omega
  have hm : m % 33 ≤ 32 := by omega
  generalize n % 33 = k at *
  generalize m % 33 = l at *
  have hkm := cov_one zc zd
  have hne : decide (l < k) = false := decide_eq_false (by omega)
  have hne2 : ((k : Int) == l) = false := by rw [beq_eq_false_iff_ne]; omega
  have hx := isP_and ha hk
  have hy := isP_and hb hm
  have hxa := hasP_and ha hk
  have hxm := isP_mul hx
  have hm1 := mk_yes (a := a) hk
  have hm2 := mk_yes (a := b) hm
  have hand := u32_and_nat a (maskN k) ha (maskN_lt k)
  have hbits := bitsN_yes hk rfl
  have HP1 : Hid (∀ W : World, Calls Tryd.prog 22 #[.int .u32 a, .int .u8 k] W fun e w' => e = .returned (.tuple #[.agg #[.int .u32 (a &&& maskN k : Nat), .int .u8 k], .int .i64 0]) ∧ Below W.heap.size W w') := Lib.hid (fun W => by have := make_any a k W ha (by omega); rw [hm1] at this; exact this)
  have HP2 : Hid (∀ W : World, Calls Tryd.prog 22 #[.int .u32 b, .int .u8 l] W fun e w' => e = .returned (.tuple #[.agg #[.int .u32 (b &&& maskN l : Nat), .int .u8 l], .int .i64 0]) ∧ Below W.heap.size W w') := Lib.hid (fun W => by have := make_any b l W hb (by omega); rw [hm2] at this; exact this)
  have HQ1 := Lib.hid (fun W => mask_any k W (by omega))
  have HQ2 : Hid (∀ W : World, Calls Tryd.prog 27 #[.int .u32 (maskN k)] W fun e w' => e = .returned (.tuple #[.int .u8 k, .bool true]) ∧ W = w') := Lib.hid (fun W => by have := bits_any (maskN k) W (maskN_lt k); rw [hbits] at this; exact this)
  have hlx : a &&& maskN k < 4294967296 := Nat.lt_of_le_of_lt Nat.and_le_left ha
  have hly : b &&& maskN l < 4294967296 := Nat.lt_of_le_of_lt Nat.and_le_left hb
  clear hm1 hm2 hbits hE
  generalize a &&& maskN k = x at *
  generalize b &&& maskN l = y at *
  generalize maskN k = M at *
  have px : (Pf.mk x k).ok := ⟨hlx, by simp only; omega⟩
  have py : (Pf.mk y l).ok := ⟨hly, by simp only; omega⟩
  have HH : Hid (∀ W : World, Calls Tryd.prog 23 #[.agg #[.int .u32 x, .int .u8 k], .int .u32 a] W fun e w' => e = .returned (.bool true) ∧ Below W.heap.size W w') := Lib.hid (fun W => by have := has_any ⟨x, k⟩ a W px ha; rw [hxa] at this; exact this)
  have HV0 : Hid (∀ W : World, Calls Tryd.prog 24 #[.agg #[.int .u32 x, .int .u8 k], .agg #[.int .u32 x, .int .u8 k]] W fun e w' => e = .returned (.bool true) ∧ Below W.heap.size W w') := Lib.hid (fun W => by have := covers_any ⟨x, k⟩ ⟨x, k⟩ W px px; rw [covP_self hx] at this; exact this)
  have HO1 : Hid (∀ W : World, Calls Tryd.prog 25 #[.agg #[.int .u32 x, .int .u8 k], .agg #[.int .u32 y, .int .u8 l]] W fun e w' => e = .returned (.bool true) ∧ Below W.heap.size W w') := Lib.hid (fun W => by have := overlap_any ⟨x, k⟩ ⟨y, l⟩ W px py; rw [show overP _ _ _ _ = true by simp [overP, zc, zd]] at this; exact this)
  have HO2 : Hid (∀ W : World, Calls Tryd.prog 25 #[.agg #[.int .u32 y, .int .u8 l], .agg #[.int .u32 x, .int .u8 k]] W fun e w' => e = .returned (.bool true) ∧ Below W.heap.size W w') := Lib.hid (fun W => by have := overlap_any ⟨y, l⟩ ⟨x, k⟩ W py px; rw [show overP _ _ _ _ = true by simp [overP, zc, zd]] at this; exact this)
  have HV1 : Hid (∀ W : World, Calls Tryd.prog 24 #[.agg #[.int .u32 x, .int .u8 k], .agg #[.int .u32 y, .int .u8 l]] W fun e w' => e = .returned (.bool true) ∧ Below W.heap.size W w') := Lib.hid (fun W => by have := covers_any ⟨x, k⟩ ⟨y, l⟩ W px py; rw [zc] at this; exact this)
  have HV2 : Hid (∀ W : World, Calls Tryd.prog 24 #[.agg #[.int .u32 y, .int .u8 l], .agg #[.int .u32 x, .int .u8 k]] W fun e w' => e = .returned (.bool false) ∧ Below W.heap.size W w') := Lib.hid (fun W => by have := covers_any ⟨y, l⟩ ⟨x, k⟩ W py px; rw [zd] at this; exact this)
  have HH2 : Hid (∀ W : World, Calls Tryd.prog 23 #[.agg #[.int .u32 y, .int .u8 l], .int .u32 a] W fun e w' => e = .returned (.bool true) ∧ Below W.heap.size W w') := Lib.hid (fun W => by have := has_any ⟨y, l⟩ a W py ha; rw [zh] at this; exact this)
  have HT : Hid (∀ W : World, Env W → Calls Tryd.prog 20 #[.agg #[.int .u32 x, .int .u8 k]] W fun e w' => e = .returned (.string ⟨(textL x k).toArray⟩) ∧ Below W.heap.size W w') := Lib.hid (fun W h => text_any ⟨x, k⟩ W px h)
  have HR : Hid (∀ W : World, Env W → Calls Tryd.prog 16 #[.string ⟨(textL x k).toArray⟩] W fun e w' => e = .returned (.tuple #[.agg #[.int .u32 x, .int .u8 k], .int .i64 0]) ∧ Below W.heap.size W w') := Lib.hid (fun W h => by have := parse_any W ⟨(textL x k).toArray⟩ (by have := textL_len x k; simp only [ByteArray.size, List.size_toArray]; omega) h; rw [show bytesOf ⟨(textL x k).toArray⟩ = textL x k from rfl, parse_text hlx hx] at this; exact this)
  have HD : Hid (∀ W : World, Env W → Calls Tryd.prog 18 #[.int .u32 b] W fun e w' => e = .returned (.string ⟨(dotL b).toArray⟩) ∧ Below W.heap.size W w') := Lib.hid (fun W h => dotted_any b W hb h)
  have HA : Hid (∀ W : World, Calls Tryd.prog 14 #[.string ⟨(dotL b).toArray⟩] W fun e w' => e = .returned (.tuple #[.int .u32 b, .int .i64 0]) ∧ Below W.heap.size W w') := Lib.hid (fun W => by have := address_any W ⟨(dotL b).toArray⟩ (by have := dotL_len b; simp only [ByteArray.size, List.size_toArray]; omega); rw [show bytesOf ⟨(dotL b).toArray⟩ = dotL b from rfl, adP_dotL hb] at this; exact this)
  have HH3 : Hid (∀ W : World, Calls Tryd.prog 23 #[.agg #[.int .u32 x, .int .u8 k], .int .u32 y] W fun e w' => e = .returned (.bool true) ∧ Below W.heap.size W w') := Lib.hid (fun W => by have := has_any ⟨x, k⟩ y W px hly; rw [(covP_le zc).2.1] at this; exact this)
  have HL : Hid (∀ W : World, Env W → Calls Tryd.prog 7 #[] W fun e w' => e = .returned (.bool true) ∧ Below W.heap.size W w') := fun W h => lives_any W h
  have HG := Lib.hid (fun W => long_any s.size W hs)
  have hsz : s.size ≤ 1099511627776 := by omega
  have HZ1 := Lib.hid (fun W => parse_any W s hsz)
  have HZ2 := Lib.hid (fun W => address_any W s hsz)
  have H3 := Lib.hid (parse_three s)
  clear px py zc zd zh hx hxm hlx hy hly hxa hs hsz ha hb
  have HB0 := Lib.hid (Below.refl w.heap.size w)
  go_enter Tryd.func5, Tryd.ntmps5
  go_wp2_with fail
  refine (HG.out _).mono ?_
  rintro e w_ ⟨rfl, rfl⟩
  go_wp2_with fail
  refine (HP1.out _).mono ?_
  rintro e v2 ⟨rfl, hb⟩
  have HB2 := Lib.hid (below_then HB0.out hb)
  clear hb HB0
  go_wp2_with fail
  have HK1 : Hid (Blk (v2.alloc (.cells #[.int .u32 x, .int .u8 k] 31)) v2.heap.size 31 (cellsP ⟨x, k⟩)) := Lib.hid (Blk.new _ _ _)
  have HBx := Lib.hid (below_box (o := (.cells #[.int .u32 x, .int .u8 k] 31)) HB2.out)
  refine (HP2.out _).mono ?_
  rintro e v3 ⟨rfl, hb⟩
  have HBy := Lib.hid (below_box (o := (.cells #[.int .u32 y, .int .u8 l] 31)) (below_then HBx.out hb))
  have HSy : Hid (NS v2.heap.size v3.heap.size ⟨x, k⟩ ⟨y, l⟩ (v3.alloc (.cells #[.int .u32 y, .int .u8 l] 31))) := Lib.hid (NS.of (HK1.out.later hb))
  have hq := HSy.out.facts
  obtain ⟨f1, f2, f3, f4⟩ := hq
  clear hb HBx HK1 HB2
  go_wp2_with fail
  generalize v3.alloc (.cells #[.int .u32 y, .int .u8 l] 31) = vy at *
  generalize v2.heap.size = g1 at *
  generalize v3.heap.size = g2 at *
  clear v2 v3
  refine (HH.out _).mono ?_
  rintro e v4 ⟨rfl, hb⟩
  have HB4 := Lib.hid (below_then HBy.out hb)
  have HS4 : Hid (NS g1 g2 ⟨x, k⟩ ⟨y, l⟩ v4) := Lib.hid (HSy.out.later hb)
  clear hb HSy HBy f1 f2 f3 f4
  obtain ⟨f1, f2, f3, f4⟩ := HS4.out.facts
  go_wp2_with fail
  refine (HV0.out _).mono ?_
  rintro e v5 ⟨rfl, hb⟩
  have HB5 := Lib.hid (below_then HB4.out hb)
  have HS5 : Hid (NS g1 g2 ⟨x, k⟩ ⟨y, l⟩ v5) := Lib.hid (HS4.out.later hb)
  clear hb HS4 HB4 f1 f2 f3 f4
  obtain ⟨f1, f2, f3, f4⟩ := HS5.out.facts
  go_wp2_with fail
  refine (HO1.out _).mono ?_
  rintro e v6 ⟨rfl, hb⟩
  have HB6 := Lib.hid (below_then HB5.out hb)
  have HS6 : Hid (NS g1 g2 ⟨x, k⟩ ⟨y, l⟩ v6) := Lib.hid (HS5.out.later hb)
  clear hb HS5 HB5 f1 f2 f3 f4
  obtain ⟨f1, f2, f3, f4⟩ := HS6.out.facts
  go_wp2_with fail
  refine (HO2.out _).mono ?_
  rintro e v7 ⟨rfl, hb⟩
  have HB7 := Lib.hid (below_then HB6.out hb)
  have HS7 : Hid (NS g1 g2 ⟨x, k⟩ ⟨y, l⟩ v7) := Lib.hid (HS6.out.later hb)
  clear hb HS6 HB6 f1 f2 f3 f4
  obtain ⟨f1, f2, f3, f4⟩ := HS7.out.facts
  go_wp2_with fail
  refine (HV1.out _).mono ?_
  rintro e v8 ⟨rfl, hb⟩
  have HB8 := Lib.hid (below_then HB7.out hb)
  have HS8 : Hid (NS g1 g2 ⟨x, k⟩ ⟨y, l⟩ v8) := Lib.hid (HS7.out.later hb)
  clear hb HS7 HB7 f1 f2 f3 f4
  obtain ⟨f1, f2, f3, f4⟩ := HS8.out.facts
  go_wp2_with fail
  refine (HV1.out _).mono ?_
  rintro e v9 ⟨rfl, hb⟩
  have HB9 := Lib.hid (below_then HB8.out hb)
  have HS9 : Hid (NS g1 g2 ⟨x, k⟩ ⟨y, l⟩ v9) := Lib.hid (HS8.out.later hb)
  clear hb HS8 HB8 f1 f2 f3 f4
  obtain ⟨f1, f2, f3, f4⟩ := HS9.out.facts
  go_wp2_with fail
  refine (HH3.out _).mono ?_
  rintro e v10 ⟨rfl, hb⟩
  have HB10 := Lib.hid (below_then HB9.out hb)
  have HS10 : Hid (NS g1 g2 ⟨x, k⟩ ⟨y, l⟩ v10) := Lib.hid (HS9.out.later hb)
  clear hb HS9 HB9 f1 f2 f3 f4
  obtain ⟨f1, f2, f3, f4⟩ := HS10.out.facts
  go_wp2_with fail
  clear f1 f2 f3 f4
  refine wp_region_s (NS g1 g2 ⟨x, k⟩ ⟨y, l⟩) [(0, true), (1, true), (2, false), (3, true), (4, true), (5, true), (7, true), (8, true), (9, true), (6, false), (10, true), (11, true), (12, true), (14, true), (13, true), (15, false), (16, true), (17, true), (18, true), (19, true), (20, true)] (by kernel_rfl) (fun _ d _ _ _ h => by cases d <;> exact h) ?_
  simp only [List.map_cons, List.map_nil, nthOp_zero, nthOp_succ]
  have HSr := Lib.hid (HS10.out.later (Below.refl _ _).drew)
  have HBr := Lib.hid (HB10.out.drew)
  generalize v10.drew = vr at *
  clear HS10 HB10 v10
  refine wpS_take HSr (by kernel_rfl) (by intro W hW; have q0 := hW.facts; obtain ⟨_, _, _, _⟩ := q0; clear hW; go_simp; try with_reducible rfl) ?_
  refine wpS_take HSr (by kernel_rfl) (by intro W hW; have q0 := hW.facts; obtain ⟨_, _, _, _⟩ := q0; clear hW; go_simp; try with_reducible rfl) ?_
  try go_simp
  refine wpS_do fun K11 hK11 => ?_
  go_wp2_with fail
  refine (HV1.out _).mono ?_
  rintro e v11 ⟨rfl, hb11⟩
  have HS11 : Hid (NS g1 g2 ⟨x, k⟩ ⟨y, l⟩ v11) := Lib.hid (HSr.out.later hb11)
  have HB11 := Lib.hid (below_then HBr.out hb11)
  clear hb11 HSr HBr
  go_wp2_with fail
  refine hK11.out _ _ HS11.out ?_
  clear hK11 K11
  refine wpS_take HS11 (by kernel_rfl) (by intro W hW; clear hW; go_simp; try with_reducible rfl) ?_
  refine wpS_take HS11 (by kernel_rfl) (by intro W hW; have q0 := hW.facts; obtain ⟨_, _, _, _⟩ := q0; clear hW; go_simp; try with_reducible rfl) ?_
  refine wpS_take HS11 (by kernel_rfl) (by intro W hW; have q0 := hW.facts; obtain ⟨_, _, _, _⟩ := q0; clear hW; go_simp; try with_reducible rfl) ?_
  refine wpS_take HS11 (by kernel_rfl) (by intro W hW; have q0 := hW.facts; obtain ⟨_, _, _, _⟩ := q0; clear hW; go_simp; try with_reducible rfl) ?_
  refine wpS_take HS11 (by kernel_rfl) (by intro W hW; have q0 := hW.facts; obtain ⟨_, _, _, _⟩ := q0; clear hW; go_simp; try with_reducible rfl) ?_
  refine wpS_take HS11 (by kernel_rfl) (by intro W hW; clear hW; go_simp; try with_reducible rfl) ?_
  try go_simp
  refine wpS_do fun K12 hK12 => ?_
  go_wp2_with fail
  refine (HV2.out _).mono ?_
  rintro e v12 ⟨rfl, hb12⟩
  have HS12 : Hid (NS g1 g2 ⟨x, k⟩ ⟨y, l⟩ v12) := Lib.hid (HS11.out.later hb12)
  have HB12 := Lib.hid (below_then HB11.out hb12)
  clear hb12 HS11 HB11
  go_wp2_with fail
  refine hK12.out _ _ HS12.out ?_
  clear hK12 K12
  refine wpS_take HS12 (by kernel_rfl) (by intro W hW; clear hW; go_simp; try with_reducible rfl) ?_
  refine wpS_take HS12 (by kernel_rfl) (by intro W hW; clear hW; go_simp; try with_reducible rfl) ?_
  refine wpS_take HS12 (by kernel_rfl) (by intro W hW; clear hW; go_simp; try with_reducible rfl) ?_
  refine wpS_take HS12 (by kernel_rfl) (by intro W hW; clear hW; go_simp; try with_reducible rfl) ?_
  refine wpS_take HS12 (by kernel_rfl) (by intro W hW; have q0 := hW.facts; obtain ⟨_, _, _, _⟩ := q0; clear hW; go_simp; try with_reducible rfl) ?_
  try go_simp
  refine wpS_do fun K13 hK13 => ?_
  go_wp2_with fail
  refine (HH2.out _).mono ?_
  rintro e v13 ⟨rfl, hb13⟩
  have HS13 : Hid (NS g1 g2 ⟨x, k⟩ ⟨y, l⟩ v13) := Lib.hid (HS12.out.later hb13)
  have HB13 := Lib.hid (below_then HB12.out hb13)
  clear hb13 HS12 HB12
  go_wp2_with fail
  refine hK13.out _ _ HS13.out ?_
  clear hK13 K13
  refine wpS_take HS13 (by kernel_rfl) (by intro W hW; clear hW; go_simp; try with_reducible rfl) ?_
  refine wpS_take HS13 (by kernel_rfl) (by intro W hW; clear hW; go_simp; try with_reducible rfl) ?_
  refine wpS_take HS13 (by kernel_rfl) (by intro W hW; clear hW; go_simp; try with_reducible rfl) ?_
  refine wpS_take HS13 (by kernel_rfl) (by intro W hW; clear hW; go_simp; try with_reducible rfl) ?_
  refine wpS_take HS13 (by kernel_rfl) (by intro W hW; clear hW; go_simp; try with_reducible rfl) ?_
  refine wpS_nil ?_
  try go_simp
  obtain ⟨f1, f2, f3, f4⟩ := HS13.out.facts
  go_wp2_with fail
  refine (HT.out _ (HE.out.later HB13.out)).mono ?_
  rintro e v14 ⟨rfl, hb⟩
  have HB14 := Lib.hid (below_then HB13.out hb)
  have HS14 : Hid (NS g1 g2 ⟨x, k⟩ ⟨y, l⟩ v14) := Lib.hid (HS13.out.later hb)
  clear hb HS13 HB13 f1 f2 f3 f4
  obtain ⟨f1, f2, f3, f4⟩ := HS14.out.facts
  go_wp2_with fail
  refine (HR.out _ (HE.out.later HB14.out)).mono ?_
  rintro e v15 ⟨rfl, hb⟩
  have HBz := Lib.hid (below_box (o := (.cells #[.int .u32 x, .int .u8 k] 31)) (below_then HB14.out hb))
  have HSz : Hid (NS g1 v15.heap.size ⟨x, k⟩ ⟨x, k⟩ (v15.alloc (.cells #[.int .u32 x, .int .u8 k] 31))) := Lib.hid (NS.of (HS14.out.later hb).cp)
  clear hb HS14 HB14 f1 f2 f3 f4
  obtain ⟨f1, f2, f3, f4⟩ := HSz.out.facts
  go_wp2_with fail
  generalize v15.alloc (.cells #[.int .u32 x, .int .u8 k] 31) = vz at *
  generalize v15.heap.size = g3 at *
  refine (HD.out _ (HE.out.later HBz.out)).mono ?_
  rintro e v16 ⟨rfl, hb⟩
  have HB16 := Lib.hid (below_then HBz.out hb)
  have HS16 : Hid (NS g1 g3 ⟨x, k⟩ ⟨x, k⟩ v16) := Lib.hid (HSz.out.later hb)
  clear hb HSz HBz f1 f2 f3 f4
  obtain ⟨f1, f2, f3, f4⟩ := HS16.out.facts
  go_wp2_with fail
  refine (HA.out _).mono ?_
  rintro e v17 ⟨rfl, hb⟩
  have HB17 := Lib.hid (below_then HB16.out hb)
  have HS17 : Hid (NS g1 g3 ⟨x, k⟩ ⟨x, k⟩ v17) := Lib.hid (HS16.out.later hb)
  clear hb HS16 HB16 f1 f2 f3 f4
  obtain ⟨f1, f2, f3, f4⟩ := HS17.out.facts
  go_wp2_with fail
  rcases H3.out with ⟨⟨u, v⟩, e1, e2, e3, e4⟩ | ⟨⟨u, v⟩, ge, ad, e1, he, e2, e3, e4⟩ | ⟨⟨u, v⟩, ge, e1, he, e2⟩
  · rw [e1, outP_ok] at HZ1
    rw [e2] at HZ2
    simp only [outN] at HZ2
    have HTy : Hid (∀ W : World, Env W → Calls Tryd.prog 20 #[.agg #[.int .u32 u, .int .u8 v]] W fun e w' => e = .returned (.string s) ∧ Below W.heap.size W w') := Lib.hid (fun W h => by have := text_any ⟨u, v⟩ W e4 h; simp only at this e3; rw [e3] at this; exact this)
    clear e1 e2 e3 e4 H3
    refine (HZ1.out _ (HE.out.later HB17.out)).mono ?_
    rintro e v18 ⟨rfl, hb⟩
    have HBu := Lib.hid (below_box (o := (.cells #[.int .u32 u, .int .u8 v] 31)) (below_then HB17.out hb))
    have HSu : Hid (NS g1 v18.heap.size ⟨x, k⟩ ⟨u, v⟩ (v18.alloc (.cells #[.int .u32 u, .int .u8 v] 31))) := Lib.hid (NS.of (HS17.out.later hb).cp)
    clear hb HS17 HB17 f1 f2 f3 f4
    obtain ⟨f1, f2, f3, f4⟩ := HSu.out.facts
    go_wp2_with fail
    generalize v18.alloc (.cells #[.int .u32 u, .int .u8 v] 31) = vu at *
    generalize v18.heap.size = g4 at *
    refine (HZ2.out _).mono ?_
    rintro e v19 ⟨rfl, hb⟩
    have HB19 := Lib.hid (below_then HBu.out hb)
    have HS19 : Hid (NS g1 g4 ⟨x, k⟩ ⟨u, v⟩ v19) := Lib.hid (HSu.out.later hb)
    clear hb HSu HBu f1 f2 f3 f4
    obtain ⟨f1, f2, f3, f4⟩ := HS19.out.facts
    go_wp2_with fail
    refine (HTy.out _ (HE.out.later HB19.out)).mono ?_
    rintro e v20 ⟨rfl, hb⟩
    have HB20 := Lib.hid (below_then HB19.out hb)
    have HS20 : Hid (NS g1 g4 ⟨x, k⟩ ⟨u, v⟩ v20) := Lib.hid (HS19.out.later hb)
    clear hb HS19 HB19 f1 f2 f3 f4
    obtain ⟨f1, f2, f3, f4⟩ := HS20.out.facts
    go_wp2_with fail
    refine (HQ1.out _).mono ?_
    rintro e w_ ⟨rfl, rfl⟩
    go_wp2_with fail
    refine (HQ2.out _).mono ?_
    rintro e w_ ⟨rfl, rfl⟩
    go_wp2_with fail
    refine (HL.out _ (HE.out.later HB20.out)).mono ?_
    rintro e v23 ⟨rfl, hb⟩
    have HB23 := Lib.hid (below_then HB20.out hb)
    have HS23 : Hid (NS g1 g4 ⟨x, k⟩ ⟨u, v⟩ v23) := Lib.hid (HS20.out.later hb)
    clear hb HS20 HB20 f1 f2 f3 f4
    obtain ⟨f1, f2, f3, f4⟩ := HS23.out.facts
    go_wp2_with fail
    go_ret
    exact ⟨rfl, HB23.out⟩
  · rw [e1, outP_ok] at HZ1
    rw [e2] at HZ2
    simp only [outN] at HZ2
    have HDy : Hid (∀ W : World, Env W → Calls Tryd.prog 18 #[.int .u32 ad] W fun e w' => e = .returned (.string s) ∧ Below W.heap.size W w') := Lib.hid (fun W h => by have := dotted_any ad W e4 h; rw [e3] at this; exact this)
    have he2 : (ge == 0) = false := by rw [beq_eq_false_iff_ne]; exact he
    clear e1 e2 e3 e4 H3
    refine (HZ1.out _ (HE.out.later HB17.out)).mono ?_
    rintro e v18 ⟨rfl, hb⟩
    have HBu := Lib.hid (below_box (o := (.cells #[.int .u32 u, .int .u8 v] 31)) (below_then HB17.out hb))
    have HSu : Hid (NS g1 v18.heap.size ⟨x, k⟩ ⟨u, v⟩ (v18.alloc (.cells #[.int .u32 u, .int .u8 v] 31))) := Lib.hid (NS.of (HS17.out.later hb).cp)
    clear hb HS17 HB17 f1 f2 f3 f4
    obtain ⟨f1, f2, f3, f4⟩ := HSu.out.facts
    go_wp2_with fail
    generalize v18.alloc (.cells #[.int .u32 u, .int .u8 v] 31) = vu at *
    generalize v18.heap.size = g4 at *
    refine (HZ2.out _).mono ?_
    rintro e v19 ⟨rfl, hb⟩
    have HB19 := Lib.hid (below_then HBu.out hb)
    have HS19 : Hid (NS g1 g4 ⟨x, k⟩ ⟨u, v⟩ v19) := Lib.hid (HSu.out.later hb)
    clear hb HSu HBu f1 f2 f3 f4
    obtain ⟨f1, f2, f3, f4⟩ := HS19.out.facts
    go_wp2_with fail
    refine (HDy.out _ (HE.out.later HB19.out)).mono ?_
    rintro e v20 ⟨rfl, hb⟩
    have HB20 := Lib.hid (below_then HB19.out hb)
    have HS20 : Hid (NS g1 g4 ⟨x, k⟩ ⟨u, v⟩ v20) := Lib.hid (HS19.out.later hb)
    clear hb HS19 HB19 f1 f2 f3 f4
    obtain ⟨f1, f2, f3, f4⟩ := HS20.out.facts
    go_wp2_with fail
    refine (HQ1.out _).mono ?_
    rintro e w_ ⟨rfl, rfl⟩
    go_wp2_with fail
    refine (HQ2.out _).mono ?_
    rintro e w_ ⟨rfl, rfl⟩
    go_wp2_with fail
    refine (HL.out _ (HE.out.later HB20.out)).mono ?_
    rintro e v23 ⟨rfl, hb⟩
    have HB23 := Lib.hid (below_then HB20.out hb)
    have HS23 : Hid (NS g1 g4 ⟨x, k⟩ ⟨u, v⟩ v23) := Lib.hid (HS20.out.later hb)
    clear hb HS20 HB20 f1 f2 f3 f4
    obtain ⟨f1, f2, f3, f4⟩ := HS23.out.facts
    go_wp2_with fail
    go_ret
    exact ⟨rfl, HB23.out⟩
  · rw [e1, outP_ok] at HZ1
    rw [e2] at HZ2
    simp only [outN] at HZ2
    have he2 : (ge == 0) = false := by rw [beq_eq_false_iff_ne]; exact he
    clear e1 e2 H3
    refine (HZ1.out _ (HE.out.later HB17.out)).mono ?_
    rintro e v18 ⟨rfl, hb⟩
    have HBu := Lib.hid (below_box (o := (.cells #[.int .u32 u, .int .u8 v] 31)) (below_then HB17.out hb))
    have HSu : Hid (NS g1 v18.heap.size ⟨x, k⟩ ⟨u, v⟩ (v18.alloc (.cells #[.int .u32 u, .int .u8 v] 31))) := Lib.hid (NS.of (HS17.out.later hb).cp)
    clear hb HS17 HB17 f1 f2 f3 f4
    obtain ⟨f1, f2, f3, f4⟩ := HSu.out.facts
    go_wp2_with fail
    generalize v18.alloc (.cells #[.int .u32 u, .int .u8 v] 31) = vu at *
    generalize v18.heap.size = g4 at *
    refine (HZ2.out _).mono ?_
    rintro e v19 ⟨rfl, hb⟩
    have HB19 := Lib.hid (below_then HBu.out hb)
    have HS19 : Hid (NS g1 g4 ⟨x, k⟩ ⟨u, v⟩ v19) := Lib.hid (HSu.out.later hb)
    clear hb HSu HBu f1 f2 f3 f4
    obtain ⟨f1, f2, f3, f4⟩ := HS19.out.facts
    go_wp2_with fail
    refine (HQ1.out _).mono ?_
    rintro e w_ ⟨rfl, rfl⟩
    go_wp2_with fail
    refine (HQ2.out _).mono ?_
    rintro e w_ ⟨rfl, rfl⟩
    go_wp2_with fail
    refine (HL.out _ (HE.out.later HB19.out)).mono ?_
    rintro e v22 ⟨rfl, hb⟩
    have HB22 := Lib.hid (below_then HB19.out hb)
    have HS22 : Hid (NS g1 g4 ⟨x, k⟩ ⟨u, v⟩ v22) := Lib.hid (HS19.out.later hb)
    clear hb HS19 HB19 f1 f2 f3 f4
    obtain ⟨f1, f2, f3, f4⟩ := HS22.out.facts
    go_wp2_with fail
    go_ret
    exact ⟨rfl, HB22.out⟩
set_option maxRecDepth 100000 in
set_option maxHeartbeats 16000000 in
theorem nests_TF0 (a b n m : Nat) (s : ByteArray) (w : World) (ha : a < 4294967296) (hb : b < 4294967296) (hs : ¬ 2147483647 < s.size) (hE : Env w)
    (zc : covP (a &&& maskN (n % 33)) (n % 33) (b &&& maskN (m % 33)) (m % 33) = true) (zd : covP (b &&& maskN (m % 33)) (m % 33) (a &&& maskN (n % 33)) (n % 33) = false) (zh : hasP (b &&& maskN (m % 33)) (m % 33) a = false) :
    Calls Tryd.prog 5 #[.int .u32 a, .int .u32 b, .int .u8 n, .int .u8 m, .string s] w fun e w' => e = .returned (.bool true) ∧ Below w.heap.size w w' := by
  have HE := Lib.hid hE
  have hkI : Int.tmod (n : Int) 33 = ((n % 33 : Nat) : Int) := by rw [Int.tmod_eq_emod_of_nonneg (by omega)]; omega
  have hmI : Int.tmod (m : Int) 33 = ((m % 33 : Nat) : Int) := by rw [Int.tmod_eq_emod_of_nonneg (by omega)]; omega
  have hk : n % 33 ≤ 32 := by omega
  have hm : m % 33 ≤ 32 := by omega
  generalize n % 33 = k at *
  generalize m % 33 = l at *
  have hkm := cov_one zc zd
  have hne : decide (l < k) = false := decide_eq_false (by omega)
  have hne2 : ((k : Int) == l) = false := by rw [beq_eq_false_iff_ne]; omega
  have hx := isP_and ha hk
  have hy := isP_and hb hm
  have hxa := hasP_and ha hk
  have hxm := isP_mul hx
  have hm1 := mk_yes (a := a) hk
  have hm2 := mk_yes (a := b) hm
  have hand := u32_and_nat a (maskN k) ha (maskN_lt k)
  have hbits := bitsN_yes hk rfl
  have HP1 : Hid (∀ W : World, Calls Tryd.prog 22 #[.int .u32 a, .int .u8 k] W fun e w' => e = .returned (.tuple #[.agg #[.int .u32 (a &&& maskN k : Nat), .int .u8 k], .int .i64 0]) ∧ Below W.heap.size W w') := Lib.hid (fun W => by have := make_any a k W ha (by omega); rw [hm1] at this; exact this)
  have HP2 : Hid (∀ W : World, Calls Tryd.prog 22 #[.int .u32 b, .int .u8 l] W fun e w' => e = .returned (.tuple #[.agg #[.int .u32 (b &&& maskN l : Nat), .int .u8 l], .int .i64 0]) ∧ Below W.heap.size W w') := Lib.hid (fun W => by have := make_any b l W hb (by omega); rw [hm2] at this; exact this)
  have HQ1 := Lib.hid (fun W => mask_any k W (by omega))
  have HQ2 : Hid (∀ W : World, Calls Tryd.prog 27 #[.int .u32 (maskN k)] W fun e w' => e = .returned (.tuple #[.int .u8 k, .bool true]) ∧ W = w') := Lib.hid (fun W => by have := bits_any (maskN k) W (maskN_lt k); rw [hbits] at this; exact this)
  have hlx : a &&& maskN k < 4294967296 := Nat.lt_of_le_of_lt Nat.and_le_left ha
  have hly : b &&& maskN l < 4294967296 := Nat.lt_of_le_of_lt Nat.and_le_left hb
  clear hm1 hm2 hbits hE
  generalize a &&& maskN k = x at *
  generalize b &&& maskN l = y at *
  generalize maskN k = M at *
  have px : (Pf.mk x k).ok := ⟨hlx, by simp only; omega⟩
  have py : (Pf.mk y l).ok := ⟨hly, by simp only; omega⟩
  have HH : Hid (∀ W : World, Calls Tryd.prog 23 #[.agg #[.int .u32 x, .int .u8 k], .int .u32 a] W fun e w' => e = .returned (.bool true) ∧ Below W.heap.size W w') := Lib.hid (fun W => by have := has_any ⟨x, k⟩ a W px ha; rw [hxa] at this; exact this)
  have HV0 : Hid (∀ W : World, Calls Tryd.prog 24 #[.agg #[.int .u32 x, .int .u8 k], .agg #[.int .u32 x, .int .u8 k]] W fun e w' => e = .returned (.bool true) ∧ Below W.heap.size W w') := Lib.hid (fun W => by have := covers_any ⟨x, k⟩ ⟨x, k⟩ W px px; rw [covP_self hx] at this; exact this)
  have HO1 : Hid (∀ W : World, Calls Tryd.prog 25 #[.agg #[.int .u32 x, .int .u8 k], .agg #[.int .u32 y, .int .u8 l]] W fun e w' => e = .returned (.bool true) ∧ Below W.heap.size W w') := Lib.hid (fun W => by have := overlap_any ⟨x, k⟩ ⟨y, l⟩ W px py; rw [show overP _ _ _ _ = true by simp [overP, zc, zd]] at this; exact this)
  have HO2 : Hid (∀ W : World, Calls Tryd.prog 25 #[.agg #[.int .u32 y, .int .u8 l], .agg #[.int .u32 x, .int .u8 k]] W fun e w' => e = .returned (.bool true) ∧ Below W.heap.size W w') := Lib.hid (fun W => by have := overlap_any ⟨y, l⟩ ⟨x, k⟩ W py px; rw [show overP _ _ _ _ = true by simp [overP, zc, zd]] at this; exact this)
  have HV1 : Hid (∀ W : World, Calls Tryd.prog 24 #[.agg #[.int .u32 x, .int .u8 k], .agg #[.int .u32 y, .int .u8 l]] W fun e w' => e = .returned (.bool true) ∧ Below W.heap.size W w') := Lib.hid (fun W => by have := covers_any ⟨x, k⟩ ⟨y, l⟩ W px py; rw [zc] at this; exact this)
  have HV2 : Hid (∀ W : World, Calls Tryd.prog 24 #[.agg #[.int .u32 y, .int .u8 l], .agg #[.int .u32 x, .int .u8 k]] W fun e w' => e = .returned (.bool false) ∧ Below W.heap.size W w') := Lib.hid (fun W => by have := covers_any ⟨y, l⟩ ⟨x, k⟩ W py px; rw [zd] at this; exact this)
  have HH2 : Hid (∀ W : World, Calls Tryd.prog 23 #[.agg #[.int .u32 y, .int .u8 l], .int .u32 a] W fun e w' => e = .returned (.bool false) ∧ Below W.heap.size W w') := Lib.hid (fun W => by have := has_any ⟨y, l⟩ a W py ha; rw [zh] at this; exact this)
  have HT : Hid (∀ W : World, Env W → Calls Tryd.prog 20 #[.agg #[.int .u32 x, .int .u8 k]] W fun e w' => e = .returned (.string ⟨(textL x k).toArray⟩) ∧ Below W.heap.size W w') := Lib.hid (fun W h => text_any ⟨x, k⟩ W px h)
  have HR : Hid (∀ W : World, Env W → Calls Tryd.prog 16 #[.string ⟨(textL x k).toArray⟩] W fun e w' => e = .returned (.tuple #[.agg #[.int .u32 x, .int .u8 k], .int .i64 0]) ∧ Below W.heap.size W w') := Lib.hid (fun W h => by have := parse_any W ⟨(textL x k).toArray⟩ (by have := textL_len x k; simp only [ByteArray.size, List.size_toArray]; omega) h; rw [show bytesOf ⟨(textL x k).toArray⟩ = textL x k from rfl, parse_text hlx hx] at this; exact this)
  have HD : Hid (∀ W : World, Env W → Calls Tryd.prog 18 #[.int .u32 b] W fun e w' => e = .returned (.string ⟨(dotL b).toArray⟩) ∧ Below W.heap.size W w') := Lib.hid (fun W h => dotted_any b W hb h)
  have HA : Hid (∀ W : World, Calls Tryd.prog 14 #[.string ⟨(dotL b).toArray⟩] W fun e w' => e = .returned (.tuple #[.int .u32 b, .int .i64 0]) ∧ Below W.heap.size W w') := Lib.hid (fun W => by have := address_any W ⟨(dotL b).toArray⟩ (by have := dotL_len b; simp only [ByteArray.size, List.size_toArray]; omega); rw [show bytesOf ⟨(dotL b).toArray⟩ = dotL b from rfl, adP_dotL hb] at this; exact this)
  have HH3 : Hid (∀ W : World, Calls Tryd.prog 23 #[.agg #[.int .u32 x, .int .u8 k], .int .u32 y] W fun e w' => e = .returned (.bool true) ∧ Below W.heap.size W w') := Lib.hid (fun W => by have := has_any ⟨x, k⟩ y W px hly; rw [(covP_le zc).2.1] at this; exact this)
  have HL : Hid (∀ W : World, Env W → Calls Tryd.prog 7 #[] W fun e w' => e = .returned (.bool true) ∧ Below W.heap.size W w') := fun W h => lives_any W h
  have HG := Lib.hid (fun W => long_any s.size W hs)
  have hsz : s.size ≤ 1099511627776 := by omega
  have HZ1 := Lib.hid (fun W => parse_any W s hsz)
  have HZ2 := Lib.hid (fun W => address_any W s hsz)
  have H3 := Lib.hid (parse_three s)
  clear px py zc zd zh hx hxm hlx hy hly hxa hs hsz ha hb
  have HB0 := Lib.hid (Below.refl w.heap.size w)
  go_enter Tryd.func5, Tryd.ntmps5
  go_wp2_with fail
  refine (HG.out _).mono ?_
  rintro e w_ ⟨rfl, rfl⟩
  go_wp2_with fail
  refine (HP1.out _).mono ?_
  rintro e v2 ⟨rfl, hb⟩
  have HB2 := Lib.hid (below_then HB0.out hb)
  clear hb HB0
  go_wp2_with fail
  have HK1 : Hid (Blk (v2.alloc (.cells #[.int .u32 x, .int .u8 k] 31)) v2.heap.size 31 (cellsP ⟨x, k⟩)) := Lib.hid (Blk.new _ _ _)
  have HBx := Lib.hid (below_box (o := (.cells #[.int .u32 x, .int .u8 k] 31)) HB2.out)
  refine (HP2.out _).mono ?_
  rintro e v3 ⟨rfl, hb⟩
  have HBy := Lib.hid (below_box (o := (.cells #[.int .u32 y, .int .u8 l] 31)) (below_then HBx.out hb))
  have HSy : Hid (NS v2.heap.size v3.heap.size ⟨x, k⟩ ⟨y, l⟩ (v3.alloc (.cells #[.int .u32 y, .int .u8 l] 31))) := Lib.hid (NS.of (HK1.out.later hb))
  have hq := HSy.out.facts
  obtain ⟨f1, f2, f3, f4⟩ := hq
  clear hb HBx HK1 HB2
  go_wp2_with fail
  generalize v3.alloc (.cells #[.int .u32 y, .int .u8 l] 31) = vy at *
  generalize v2.heap.size = g1 at *
  generalize v3.heap.size = g2 at *
  clear v2 v3
  refine (HH.out _).mono ?_
  rintro e v4 ⟨rfl, hb⟩
  have HB4 := Lib.hid (below_then HBy.out hb)
  have HS4 : Hid (NS g1 g2 ⟨x, k⟩ ⟨y, l⟩ v4) := Lib.hid (HSy.out.later hb)
  clear hb HSy HBy f1 f2 f3 f4
  obtain ⟨f1, f2, f3, f4⟩ := HS4.out.facts
  go_wp2_with fail
  refine (HV0.out _).mono ?_
  rintro e v5 ⟨rfl, hb⟩
  have HB5 := Lib.hid (below_then HB4.out hb)
  have HS5 : Hid (NS g1 g2 ⟨x, k⟩ ⟨y, l⟩ v5) := Lib.hid (HS4.out.later hb)
  clear hb HS4 HB4 f1 f2 f3 f4
  obtain ⟨f1, f2, f3, f4⟩ := HS5.out.facts
  go_wp2_with fail
  refine (HO1.out _).mono ?_
  rintro e v6 ⟨rfl, hb⟩
  have HB6 := Lib.hid (below_then HB5.out hb)
  have HS6 : Hid (NS g1 g2 ⟨x, k⟩ ⟨y, l⟩ v6) := Lib.hid (HS5.out.later hb)
  clear hb HS5 HB5 f1 f2 f3 f4
  obtain ⟨f1, f2, f3, f4⟩ := HS6.out.facts
  go_wp2_with fail
  refine (HO2.out _).mono ?_
  rintro e v7 ⟨rfl, hb⟩
  have HB7 := Lib.hid (below_then HB6.out hb)
  have HS7 : Hid (NS g1 g2 ⟨x, k⟩ ⟨y, l⟩ v7) := Lib.hid (HS6.out.later hb)
  clear hb HS6 HB6 f1 f2 f3 f4
  obtain ⟨f1, f2, f3, f4⟩ := HS7.out.facts
  go_wp2_with fail
  refine (HV1.out _).mono ?_
  rintro e v8 ⟨rfl, hb⟩
  have HB8 := Lib.hid (below_then HB7.out hb)
  have HS8 : Hid (NS g1 g2 ⟨x, k⟩ ⟨y, l⟩ v8) := Lib.hid (HS7.out.later hb)
  clear hb HS7 HB7 f1 f2 f3 f4
  obtain ⟨f1, f2, f3, f4⟩ := HS8.out.facts
  go_wp2_with fail
  refine (HV1.out _).mono ?_
  rintro e v9 ⟨rfl, hb⟩
  have HB9 := Lib.hid (below_then HB8.out hb)
  have HS9 : Hid (NS g1 g2 ⟨x, k⟩ ⟨y, l⟩ v9) := Lib.hid (HS8.out.later hb)
  clear hb HS8 HB8 f1 f2 f3 f4
  obtain ⟨f1, f2, f3, f4⟩ := HS9.out.facts
  go_wp2_with fail
  refine (HH3.out _).mono ?_
  rintro e v10 ⟨rfl, hb⟩
  have HB10 := Lib.hid (below_then HB9.out hb)
  have HS10 : Hid (NS g1 g2 ⟨x, k⟩ ⟨y, l⟩ v10) := Lib.hid (HS9.out.later hb)
  clear hb HS9 HB9 f1 f2 f3 f4
  obtain ⟨f1, f2, f3, f4⟩ := HS10.out.facts
  go_wp2_with fail
  clear f1 f2 f3 f4
  refine wp_region_s (NS g1 g2 ⟨x, k⟩ ⟨y, l⟩) [(0, true), (1, true), (2, false), (3, true), (4, true), (5, true), (7, true), (8, true), (9, true), (6, false), (10, true), (11, true), (12, true), (14, true), (13, true), (15, false), (16, true), (17, true), (18, true), (19, true), (20, true)] (by kernel_rfl) (fun _ d _ _ _ h => by cases d <;> exact h) ?_
  simp only [List.map_cons, List.map_nil, nthOp_zero, nthOp_succ]
  have HSr := Lib.hid (HS10.out.later (Below.refl _ _).drew)
  have HBr := Lib.hid (HB10.out.drew)
  generalize v10.drew = vr at *
  clear HS10 HB10 v10
  refine wpS_take HSr (by kernel_rfl) (by intro W hW; have q0 := hW.facts; obtain ⟨_, _, _, _⟩ := q0; clear hW; go_simp; try with_reducible rfl) ?_
  refine wpS_take HSr (by kernel_rfl) (by intro W hW; have q0 := hW.facts; obtain ⟨_, _, _, _⟩ := q0; clear hW; go_simp; try with_reducible rfl) ?_
  try go_simp
  refine wpS_do fun K11 hK11 => ?_
  go_wp2_with fail
  refine (HV1.out _).mono ?_
  rintro e v11 ⟨rfl, hb11⟩
  have HS11 : Hid (NS g1 g2 ⟨x, k⟩ ⟨y, l⟩ v11) := Lib.hid (HSr.out.later hb11)
  have HB11 := Lib.hid (below_then HBr.out hb11)
  clear hb11 HSr HBr
  go_wp2_with fail
  refine hK11.out _ _ HS11.out ?_
  clear hK11 K11
  refine wpS_take HS11 (by kernel_rfl) (by intro W hW; clear hW; go_simp; try with_reducible rfl) ?_
  refine wpS_take HS11 (by kernel_rfl) (by intro W hW; have q0 := hW.facts; obtain ⟨_, _, _, _⟩ := q0; clear hW; go_simp; try with_reducible rfl) ?_
  refine wpS_take HS11 (by kernel_rfl) (by intro W hW; have q0 := hW.facts; obtain ⟨_, _, _, _⟩ := q0; clear hW; go_simp; try with_reducible rfl) ?_
  refine wpS_take HS11 (by kernel_rfl) (by intro W hW; have q0 := hW.facts; obtain ⟨_, _, _, _⟩ := q0; clear hW; go_simp; try with_reducible rfl) ?_
  refine wpS_take HS11 (by kernel_rfl) (by intro W hW; have q0 := hW.facts; obtain ⟨_, _, _, _⟩ := q0; clear hW; go_simp; try with_reducible rfl) ?_
  refine wpS_take HS11 (by kernel_rfl) (by intro W hW; clear hW; go_simp; try with_reducible rfl) ?_
  try go_simp
  refine wpS_do fun K12 hK12 => ?_
  go_wp2_with fail
  refine (HV2.out _).mono ?_
  rintro e v12 ⟨rfl, hb12⟩
  have HS12 : Hid (NS g1 g2 ⟨x, k⟩ ⟨y, l⟩ v12) := Lib.hid (HS11.out.later hb12)
  have HB12 := Lib.hid (below_then HB11.out hb12)
  clear hb12 HS11 HB11
  go_wp2_with fail
  refine hK12.out _ _ HS12.out ?_
  clear hK12 K12
  refine wpS_take HS12 (by kernel_rfl) (by intro W hW; clear hW; go_simp; try with_reducible rfl) ?_
  refine wpS_take HS12 (by kernel_rfl) (by intro W hW; clear hW; go_simp; try with_reducible rfl) ?_
  refine wpS_take HS12 (by kernel_rfl) (by intro W hW; clear hW; go_simp; try with_reducible rfl) ?_
  refine wpS_take HS12 (by kernel_rfl) (by intro W hW; clear hW; go_simp; try with_reducible rfl) ?_
  refine wpS_take HS12 (by kernel_rfl) (by intro W hW; have q0 := hW.facts; obtain ⟨_, _, _, _⟩ := q0; clear hW; go_simp; try with_reducible rfl) ?_
  try go_simp
  refine wpS_do fun K13 hK13 => ?_
  go_wp2_with fail
  refine (HH2.out _).mono ?_
  rintro e v13 ⟨rfl, hb13⟩
  have HS13 : Hid (NS g1 g2 ⟨x, k⟩ ⟨y, l⟩ v13) := Lib.hid (HS12.out.later hb13)
  have HB13 := Lib.hid (below_then HB12.out hb13)
  clear hb13 HS12 HB12
  go_wp2_with fail
  refine hK13.out _ _ HS13.out ?_
  clear hK13 K13
  refine wpS_take HS13 (by kernel_rfl) (by intro W hW; clear hW; go_simp; try with_reducible rfl) ?_
  refine wpS_skip HS13 (by kernel_rfl) ?_
  refine wpS_skip HS13 (by kernel_rfl) ?_
  refine wpS_take HS13 (by kernel_rfl) (by intro W hW; clear hW; go_simp; try with_reducible rfl) ?_
  refine wpS_take HS13 (by kernel_rfl) (by intro W hW; clear hW; go_simp; try with_reducible rfl) ?_
  refine wpS_nil ?_
  try go_simp
  obtain ⟨f1, f2, f3, f4⟩ := HS13.out.facts
  go_wp2_with fail
  refine (HT.out _ (HE.out.later HB13.out)).mono ?_
  rintro e v14 ⟨rfl, hb⟩
  have HB14 := Lib.hid (below_then HB13.out hb)
  have HS14 : Hid (NS g1 g2 ⟨x, k⟩ ⟨y, l⟩ v14) := Lib.hid (HS13.out.later hb)
  clear hb HS13 HB13 f1 f2 f3 f4
  obtain ⟨f1, f2, f3, f4⟩ := HS14.out.facts
  go_wp2_with fail
  refine (HR.out _ (HE.out.later HB14.out)).mono ?_
  rintro e v15 ⟨rfl, hb⟩
  have HBz := Lib.hid (below_box (o := (.cells #[.int .u32 x, .int .u8 k] 31)) (below_then HB14.out hb))
  have HSz : Hid (NS g1 v15.heap.size ⟨x, k⟩ ⟨x, k⟩ (v15.alloc (.cells #[.int .u32 x, .int .u8 k] 31))) := Lib.hid (NS.of (HS14.out.later hb).cp)
  clear hb HS14 HB14 f1 f2 f3 f4
  obtain ⟨f1, f2, f3, f4⟩ := HSz.out.facts
  go_wp2_with fail
  generalize v15.alloc (.cells #[.int .u32 x, .int .u8 k] 31) = vz at *
  generalize v15.heap.size = g3 at *
  refine (HD.out _ (HE.out.later HBz.out)).mono ?_
  rintro e v16 ⟨rfl, hb⟩
  have HB16 := Lib.hid (below_then HBz.out hb)
  have HS16 : Hid (NS g1 g3 ⟨x, k⟩ ⟨x, k⟩ v16) := Lib.hid (HSz.out.later hb)
  clear hb HSz HBz f1 f2 f3 f4
  obtain ⟨f1, f2, f3, f4⟩ := HS16.out.facts
  go_wp2_with fail
  refine (HA.out _).mono ?_
  rintro e v17 ⟨rfl, hb⟩
  have HB17 := Lib.hid (below_then HB16.out hb)
  have HS17 : Hid (NS g1 g3 ⟨x, k⟩ ⟨x, k⟩ v17) := Lib.hid (HS16.out.later hb)
  clear hb HS16 HB16 f1 f2 f3 f4
  obtain ⟨f1, f2, f3, f4⟩ := HS17.out.facts
  go_wp2_with fail
  rcases H3.out with ⟨⟨u, v⟩, e1, e2, e3, e4⟩ | ⟨⟨u, v⟩, ge, ad, e1, he, e2, e3, e4⟩ | ⟨⟨u, v⟩, ge, e1, he, e2⟩
  · rw [e1, outP_ok] at HZ1
    rw [e2] at HZ2
    simp only [outN] at HZ2
    have HTy : Hid (∀ W : World, Env W → Calls Tryd.prog 20 #[.agg #[.int .u32 u, .int .u8 v]] W fun e w' => e = .returned (.string s) ∧ Below W.heap.size W w') := Lib.hid (fun W h => by have := text_any ⟨u, v⟩ W e4 h; simp only at this e3; rw [e3] at this; exact this)
    clear e1 e2 e3 e4 H3
    refine (HZ1.out _ (HE.out.later HB17.out)).mono ?_
    rintro e v18 ⟨rfl, hb⟩
    have HBu := Lib.hid (below_box (o := (.cells #[.int .u32 u, .int .u8 v] 31)) (below_then HB17.out hb))
    have HSu : Hid (NS g1 v18.heap.size ⟨x, k⟩ ⟨u, v⟩ (v18.alloc (.cells #[.int .u32 u, .int .u8 v] 31))) := Lib.hid (NS.of (HS17.out.later hb).cp)
    clear hb HS17 HB17 f1 f2 f3 f4
    obtain ⟨f1, f2, f3, f4⟩ := HSu.out.facts
    go_wp2_with fail
    generalize v18.alloc (.cells #[.int .u32 u, .int .u8 v] 31) = vu at *
    generalize v18.heap.size = g4 at *
    refine (HZ2.out _).mono ?_
    rintro e v19 ⟨rfl, hb⟩
    have HB19 := Lib.hid (below_then HBu.out hb)
    have HS19 : Hid (NS g1 g4 ⟨x, k⟩ ⟨u, v⟩ v19) := Lib.hid (HSu.out.later hb)
    clear hb HSu HBu f1 f2 f3 f4
    obtain ⟨f1, f2, f3, f4⟩ := HS19.out.facts
    go_wp2_with fail
    refine (HTy.out _ (HE.out.later HB19.out)).mono ?_
    rintro e v20 ⟨rfl, hb⟩
    have HB20 := Lib.hid (below_then HB19.out hb)
    have HS20 : Hid (NS g1 g4 ⟨x, k⟩ ⟨u, v⟩ v20) := Lib.hid (HS19.out.later hb)
    clear hb HS19 HB19 f1 f2 f3 f4
    obtain ⟨f1, f2, f3, f4⟩ := HS20.out.facts
    go_wp2_with fail
    refine (HQ1.out _).mono ?_
    rintro e w_ ⟨rfl, rfl⟩
    go_wp2_with fail
    refine (HQ2.out _).mono ?_
    rintro e w_ ⟨rfl, rfl⟩
    go_wp2_with fail
    refine (HL.out _ (HE.out.later HB20.out)).mono ?_
    rintro e v23 ⟨rfl, hb⟩
    have HB23 := Lib.hid (below_then HB20.out hb)
    have HS23 : Hid (NS g1 g4 ⟨x, k⟩ ⟨u, v⟩ v23) := Lib.hid (HS20.out.later hb)
    clear hb HS20 HB20 f1 f2 f3 f4
    obtain ⟨f1, f2, f3, f4⟩ := HS23.out.facts
    go_wp2_with fail
    go_ret
    exact ⟨rfl, HB23.out⟩
  · rw [e1, outP_ok] at HZ1
    rw [e2] at HZ2
    simp only [outN] at HZ2
    have HDy : Hid (∀ W : World, Env W → Calls Tryd.prog 18 #[.int .u32 ad] W fun e w' => e = .returned (.string s) ∧ Below W.heap.size W w') := Lib.hid (fun W h => by have := dotted_any ad W e4 h; rw [e3] at this; exact this)
    have he2 : (ge == 0) = false := by rw [beq_eq_false_iff_ne]; exact he
    clear e1 e2 e3 e4 H3
    refine (HZ1.out _ (HE.out.later HB17.out)).mono ?_
    rintro e v18 ⟨rfl, hb⟩
    have HBu := Lib.hid (below_box (o := (.cells #[.int .u32 u, .int .u8 v] 31)) (below_then HB17.out hb))
    have HSu : Hid (NS g1 v18.heap.size ⟨x, k⟩ ⟨u, v⟩ (v18.alloc (.cells #[.int .u32 u, .int .u8 v] 31))) := Lib.hid (NS.of (HS17.out.later hb).cp)
    clear hb HS17 HB17 f1 f2 f3 f4
    obtain ⟨f1, f2, f3, f4⟩ := HSu.out.facts
    go_wp2_with fail
    generalize v18.alloc (.cells #[.int .u32 u, .int .u8 v] 31) = vu at *
    generalize v18.heap.size = g4 at *
    refine (HZ2.out _).mono ?_
    rintro e v19 ⟨rfl, hb⟩
    have HB19 := Lib.hid (below_then HBu.out hb)
    have HS19 : Hid (NS g1 g4 ⟨x, k⟩ ⟨u, v⟩ v19) := Lib.hid (HSu.out.later hb)
    clear hb HSu HBu f1 f2 f3 f4
    obtain ⟨f1, f2, f3, f4⟩ := HS19.out.facts
    go_wp2_with fail
    refine (HDy.out _ (HE.out.later HB19.out)).mono ?_
    rintro e v20 ⟨rfl, hb⟩
    have HB20 := Lib.hid (below_then HB19.out hb)
    have HS20 : Hid (NS g1 g4 ⟨x, k⟩ ⟨u, v⟩ v20) := Lib.hid (HS19.out.later hb)
    clear hb HS19 HB19 f1 f2 f3 f4
    obtain ⟨f1, f2, f3, f4⟩ := HS20.out.facts
    go_wp2_with fail
    refine (HQ1.out _).mono ?_
    rintro e w_ ⟨rfl, rfl⟩
    go_wp2_with fail
    refine (HQ2.out _).mono ?_
    rintro e w_ ⟨rfl, rfl⟩
    go_wp2_with fail
    refine (HL.out _ (HE.out.later HB20.out)).mono ?_
    rintro e v23 ⟨rfl, hb⟩
    have HB23 := Lib.hid (below_then HB20.out hb)
    have HS23 : Hid (NS g1 g4 ⟨x, k⟩ ⟨u, v⟩ v23) := Lib.hid (HS20.out.later hb)
    clear hb HS20 HB20 f1 f2 f3 f4
    obtain ⟨f1, f2, f3, f4⟩ := HS23.out.facts
    go_wp2_with fail
    go_ret
    exact ⟨rfl, HB23.out⟩
  · rw [e1, outP_ok] at HZ1
    rw [e2] at HZ2
    simp only [outN] at HZ2
    have he2 : (ge == 0) = false := by rw [beq_eq_false_iff_ne]; exact he
    clear e1 e2 H3
    refine (HZ1.out _ (HE.out.later HB17.out)).mono ?_
    rintro e v18 ⟨rfl, hb⟩
    have HBu := Lib.hid (below_box (o := (.cells #[.int .u32 u, .int .u8 v] 31)) (below_then HB17.out hb))
    have HSu : Hid (NS g1 v18.heap.size ⟨x, k⟩ ⟨u, v⟩ (v18.alloc (.cells #[.int .u32 u, .int .u8 v] 31))) := Lib.hid (NS.of (HS17.out.later hb).cp)
    clear hb HS17 HB17 f1 f2 f3 f4
    obtain ⟨f1, f2, f3, f4⟩ := HSu.out.facts
    go_wp2_with fail
    generalize v18.alloc (.cells #[.int .u32 u, .int .u8 v] 31) = vu at *
    generalize v18.heap.size = g4 at *
    refine (HZ2.out _).mono ?_
    rintro e v19 ⟨rfl, hb⟩
    have HB19 := Lib.hid (below_then HBu.out hb)
    have HS19 : Hid (NS g1 g4 ⟨x, k⟩ ⟨u, v⟩ v19) := Lib.hid (HSu.out.later hb)
    clear hb HSu HBu f1 f2 f3 f4
    obtain ⟨f1, f2, f3, f4⟩ := HS19.out.facts
    go_wp2_with fail
    refine (HQ1.out _).mono ?_
    rintro e w_ ⟨rfl, rfl⟩
    go_wp2_with fail
    refine (HQ2.out _).mono ?_
    rintro e w_ ⟨rfl, rfl⟩
    go_wp2_with fail
    refine (HL.out _ (HE.out.later HB19.out)).mono ?_
    rintro e v22 ⟨rfl, hb⟩
    have HB22 := Lib.hid (below_then HB19.out hb)
    have HS22 : Hid (NS g1 g4 ⟨x, k⟩ ⟨u, v⟩ v22) := Lib.hid (HS19.out.later hb)
    clear hb HS19 HB19 f1 f2 f3 f4
    obtain ⟨f1, f2, f3, f4⟩ := HS22.out.facts
    go_wp2_with fail
    go_ret
    exact ⟨rfl, HB22.out⟩
set_option maxRecDepth 100000 in
set_option maxHeartbeats 16000000 in
theorem nests_FT (a b n m : Nat) (s : ByteArray) (w : World) (ha : a < 4294967296) (hb : b < 4294967296) (hs : ¬ 2147483647 < s.size) (hE : Env w)
    (zc : covP (a &&& maskN (n % 33)) (n % 33) (b &&& maskN (m % 33)) (m % 33) = false) (zd : covP (b &&& maskN (m % 33)) (m % 33) (a &&& maskN (n % 33)) (n % 33) = true) (zh : hasP (b &&& maskN (m % 33)) (m % 33) a = true) :
    Calls Tryd.prog 5 #[.int .u32 a, .int .u32 b, .int .u8 n, .int .u8 m, .string s] w fun e w' => e = .returned (.bool true) ∧ Below w.heap.size w w' := by
  have HE := Lib.hid hE
  have hkI : Int.tmod (n : Int) 33 = ((n % 33 : Nat) : Int) := by rw [Int.tmod_eq_emod_of_nonneg (by omega)]; omega
  have hmI : Int.tmod (m : Int) 33 = ((m % 33 : Nat) : Int) := by rw [Int.tmod_eq_emod_of_nonneg (by omega)]; omega
  have hk : n % 33 ≤ 32 := by omega
  have hm : m % 33 ≤ 32 := by omega
  generalize n % 33 = k at *
  generalize m % 33 = l at *
  have hx := isP_and ha hk
  have hy := isP_and hb hm
  have hxa := hasP_and ha hk
  have hxm := isP_mul hx
  have hm1 := mk_yes (a := a) hk
  have hm2 := mk_yes (a := b) hm
  have hand := u32_and_nat a (maskN k) ha (maskN_lt k)
  have hbits := bitsN_yes hk rfl
  have HP1 : Hid (∀ W : World, Calls Tryd.prog 22 #[.int .u32 a, .int .u8 k] W fun e w' => e = .returned (.tuple #[.agg #[.int .u32 (a &&& maskN k : Nat), .int .u8 k], .int .i64 0]) ∧ Below W.heap.size W w') := Lib.hid (fun W => by have := make_any a k W ha (by omega); rw [hm1] at this; exact this)
  have HP2 : Hid (∀ W : World, Calls Tryd.prog 22 #[.int .u32 b, .int .u8 l] W fun e w' => e = .returned (.tuple #[.agg #[.int .u32 (b &&& maskN l : Nat), .int .u8 l], .int .i64 0]) ∧ Below W.heap.size W w') := Lib.hid (fun W => by have := make_any b l W hb (by omega); rw [hm2] at this; exact this)
  have HQ1 := Lib.hid (fun W => mask_any k W (by omega))
  have HQ2 : Hid (∀ W : World, Calls Tryd.prog 27 #[.int .u32 (maskN k)] W fun e w' => e = .returned (.tuple #[.int .u8 k, .bool true]) ∧ W = w') := Lib.hid (fun W => by have := bits_any (maskN k) W (maskN_lt k); rw [hbits] at this; exact this)
  have hlx : a &&& maskN k < 4294967296 := Nat.lt_of_le_of_lt Nat.and_le_left ha
  have hly : b &&& maskN l < 4294967296 := Nat.lt_of_le_of_lt Nat.and_le_left hb
  clear hm1 hm2 hbits hE
  generalize a &&& maskN k = x at *
  generalize b &&& maskN l = y at *
  generalize maskN k = M at *
  have px : (Pf.mk x k).ok := ⟨hlx, by simp only; omega⟩
  have py : (Pf.mk y l).ok := ⟨hly, by simp only; omega⟩
  have HH : Hid (∀ W : World, Calls Tryd.prog 23 #[.agg #[.int .u32 x, .int .u8 k], .int .u32 a] W fun e w' => e = .returned (.bool true) ∧ Below W.heap.size W w') := Lib.hid (fun W => by have := has_any ⟨x, k⟩ a W px ha; rw [hxa] at this; exact this)
  have HV0 : Hid (∀ W : World, Calls Tryd.prog 24 #[.agg #[.int .u32 x, .int .u8 k], .agg #[.int .u32 x, .int .u8 k]] W fun e w' => e = .returned (.bool true) ∧ Below W.heap.size W w') := Lib.hid (fun W => by have := covers_any ⟨x, k⟩ ⟨x, k⟩ W px px; rw [covP_self hx] at this; exact this)
  have HO1 : Hid (∀ W : World, Calls Tryd.prog 25 #[.agg #[.int .u32 x, .int .u8 k], .agg #[.int .u32 y, .int .u8 l]] W fun e w' => e = .returned (.bool true) ∧ Below W.heap.size W w') := Lib.hid (fun W => by have := overlap_any ⟨x, k⟩ ⟨y, l⟩ W px py; rw [show overP _ _ _ _ = true by simp [overP, zc, zd]] at this; exact this)
  have HO2 : Hid (∀ W : World, Calls Tryd.prog 25 #[.agg #[.int .u32 y, .int .u8 l], .agg #[.int .u32 x, .int .u8 k]] W fun e w' => e = .returned (.bool true) ∧ Below W.heap.size W w') := Lib.hid (fun W => by have := overlap_any ⟨y, l⟩ ⟨x, k⟩ W py px; rw [show overP _ _ _ _ = true by simp [overP, zc, zd]] at this; exact this)
  have HV1 : Hid (∀ W : World, Calls Tryd.prog 24 #[.agg #[.int .u32 x, .int .u8 k], .agg #[.int .u32 y, .int .u8 l]] W fun e w' => e = .returned (.bool false) ∧ Below W.heap.size W w') := Lib.hid (fun W => by have := covers_any ⟨x, k⟩ ⟨y, l⟩ W px py; rw [zc] at this; exact this)
  have HV2 : Hid (∀ W : World, Calls Tryd.prog 24 #[.agg #[.int .u32 y, .int .u8 l], .agg #[.int .u32 x, .int .u8 k]] W fun e w' => e = .returned (.bool true) ∧ Below W.heap.size W w') := Lib.hid (fun W => by have := covers_any ⟨y, l⟩ ⟨x, k⟩ W py px; rw [zd] at this; exact this)
  have HH2 : Hid (∀ W : World, Calls Tryd.prog 23 #[.agg #[.int .u32 y, .int .u8 l], .int .u32 a] W fun e w' => e = .returned (.bool true) ∧ Below W.heap.size W w') := Lib.hid (fun W => by have := has_any ⟨y, l⟩ a W py ha; rw [zh] at this; exact this)
  have HT : Hid (∀ W : World, Env W → Calls Tryd.prog 20 #[.agg #[.int .u32 x, .int .u8 k]] W fun e w' => e = .returned (.string ⟨(textL x k).toArray⟩) ∧ Below W.heap.size W w') := Lib.hid (fun W h => text_any ⟨x, k⟩ W px h)
  have HR : Hid (∀ W : World, Env W → Calls Tryd.prog 16 #[.string ⟨(textL x k).toArray⟩] W fun e w' => e = .returned (.tuple #[.agg #[.int .u32 x, .int .u8 k], .int .i64 0]) ∧ Below W.heap.size W w') := Lib.hid (fun W h => by have := parse_any W ⟨(textL x k).toArray⟩ (by have := textL_len x k; simp only [ByteArray.size, List.size_toArray]; omega) h; rw [show bytesOf ⟨(textL x k).toArray⟩ = textL x k from rfl, parse_text hlx hx] at this; exact this)
  have HD : Hid (∀ W : World, Env W → Calls Tryd.prog 18 #[.int .u32 b] W fun e w' => e = .returned (.string ⟨(dotL b).toArray⟩) ∧ Below W.heap.size W w') := Lib.hid (fun W h => dotted_any b W hb h)
  have HA : Hid (∀ W : World, Calls Tryd.prog 14 #[.string ⟨(dotL b).toArray⟩] W fun e w' => e = .returned (.tuple #[.int .u32 b, .int .i64 0]) ∧ Below W.heap.size W w') := Lib.hid (fun W => by have := address_any W ⟨(dotL b).toArray⟩ (by have := dotL_len b; simp only [ByteArray.size, List.size_toArray]; omega); rw [show bytesOf ⟨(dotL b).toArray⟩ = dotL b from rfl, adP_dotL hb] at this; exact this)
  have HL : Hid (∀ W : World, Env W → Calls Tryd.prog 7 #[] W fun e w' => e = .returned (.bool true) ∧ Below W.heap.size W w') := fun W h => lives_any W h
  have HG := Lib.hid (fun W => long_any s.size W hs)
  have hsz : s.size ≤ 1099511627776 := by omega
  have HZ1 := Lib.hid (fun W => parse_any W s hsz)
  have HZ2 := Lib.hid (fun W => address_any W s hsz)
  have H3 := Lib.hid (parse_three s)
  clear px py zc zd zh hx hxm hlx hy hly hxa hs hsz ha hb
  have HB0 := Lib.hid (Below.refl w.heap.size w)
  go_enter Tryd.func5, Tryd.ntmps5
  go_wp2_with fail
  refine (HG.out _).mono ?_
  rintro e w_ ⟨rfl, rfl⟩
  go_wp2_with fail
  refine (HP1.out _).mono ?_
  rintro e v2 ⟨rfl, hb⟩
  have HB2 := Lib.hid (below_then HB0.out hb)
  clear hb HB0
  go_wp2_with fail
  have HK1 : Hid (Blk (v2.alloc (.cells #[.int .u32 x, .int .u8 k] 31)) v2.heap.size 31 (cellsP ⟨x, k⟩)) := Lib.hid (Blk.new _ _ _)
  have HBx := Lib.hid (below_box (o := (.cells #[.int .u32 x, .int .u8 k] 31)) HB2.out)
  refine (HP2.out _).mono ?_
  rintro e v3 ⟨rfl, hb⟩
  have HBy := Lib.hid (below_box (o := (.cells #[.int .u32 y, .int .u8 l] 31)) (below_then HBx.out hb))
  have HSy : Hid (NS v2.heap.size v3.heap.size ⟨x, k⟩ ⟨y, l⟩ (v3.alloc (.cells #[.int .u32 y, .int .u8 l] 31))) := Lib.hid (NS.of (HK1.out.later hb))
  have hq := HSy.out.facts
  obtain ⟨f1, f2, f3, f4⟩ := hq
  clear hb HBx HK1 HB2
  go_wp2_with fail
  generalize v3.alloc (.cells #[.int .u32 y, .int .u8 l] 31) = vy at *
  generalize v2.heap.size = g1 at *
  generalize v3.heap.size = g2 at *
  clear v2 v3
  refine (HH.out _).mono ?_
  rintro e v4 ⟨rfl, hb⟩
  have HB4 := Lib.hid (below_then HBy.out hb)
  have HS4 : Hid (NS g1 g2 ⟨x, k⟩ ⟨y, l⟩ v4) := Lib.hid (HSy.out.later hb)
  clear hb HSy HBy f1 f2 f3 f4
  obtain ⟨f1, f2, f3, f4⟩ := HS4.out.facts
  go_wp2_with fail
  refine (HV0.out _).mono ?_
  rintro e v5 ⟨rfl, hb⟩
  have HB5 := Lib.hid (below_then HB4.out hb)
  have HS5 : Hid (NS g1 g2 ⟨x, k⟩ ⟨y, l⟩ v5) := Lib.hid (HS4.out.later hb)
  clear hb HS4 HB4 f1 f2 f3 f4
  obtain ⟨f1, f2, f3, f4⟩ := HS5.out.facts
  go_wp2_with fail
  refine (HO1.out _).mono ?_
  rintro e v6 ⟨rfl, hb⟩
  have HB6 := Lib.hid (below_then HB5.out hb)
  have HS6 : Hid (NS g1 g2 ⟨x, k⟩ ⟨y, l⟩ v6) := Lib.hid (HS5.out.later hb)
  clear hb HS5 HB5 f1 f2 f3 f4
  obtain ⟨f1, f2, f3, f4⟩ := HS6.out.facts
  go_wp2_with fail
  refine (HO2.out _).mono ?_
  rintro e v7 ⟨rfl, hb⟩
  have HB7 := Lib.hid (below_then HB6.out hb)
  have HS7 : Hid (NS g1 g2 ⟨x, k⟩ ⟨y, l⟩ v7) := Lib.hid (HS6.out.later hb)
  clear hb HS6 HB6 f1 f2 f3 f4
  obtain ⟨f1, f2, f3, f4⟩ := HS7.out.facts
  go_wp2_with fail
  refine (HV1.out _).mono ?_
  rintro e v8 ⟨rfl, hb⟩
  have HB8 := Lib.hid (below_then HB7.out hb)
  have HS8 : Hid (NS g1 g2 ⟨x, k⟩ ⟨y, l⟩ v8) := Lib.hid (HS7.out.later hb)
  clear hb HS7 HB7 f1 f2 f3 f4
  obtain ⟨f1, f2, f3, f4⟩ := HS8.out.facts
  go_wp2_with fail
  refine (HV2.out _).mono ?_
  rintro e v9 ⟨rfl, hb⟩
  have HB9 := Lib.hid (below_then HB8.out hb)
  have HS9 : Hid (NS g1 g2 ⟨x, k⟩ ⟨y, l⟩ v9) := Lib.hid (HS8.out.later hb)
  clear hb HS8 HB8 f1 f2 f3 f4
  obtain ⟨f1, f2, f3, f4⟩ := HS9.out.facts
  go_wp2_with fail
  refine (HV1.out _).mono ?_
  rintro e v10 ⟨rfl, hb⟩
  have HB10 := Lib.hid (below_then HB9.out hb)
  have HS10 : Hid (NS g1 g2 ⟨x, k⟩ ⟨y, l⟩ v10) := Lib.hid (HS9.out.later hb)
  clear hb HS9 HB9 f1 f2 f3 f4
  obtain ⟨f1, f2, f3, f4⟩ := HS10.out.facts
  go_wp2_with fail
  clear f1 f2 f3 f4
  refine wp_region_s (NS g1 g2 ⟨x, k⟩ ⟨y, l⟩) [(0, true), (1, true), (2, false), (3, true), (4, true), (5, true), (7, true), (8, true), (9, true), (6, false), (10, true), (11, true), (12, true), (14, true), (13, true), (15, false), (16, true), (17, true), (18, true), (19, true), (20, true)] (by kernel_rfl) (fun _ d _ _ _ h => by cases d <;> exact h) ?_
  simp only [List.map_cons, List.map_nil, nthOp_zero, nthOp_succ]
  have HSr := Lib.hid (HS10.out.later (Below.refl _ _).drew)
  have HBr := Lib.hid (HB10.out.drew)
  generalize v10.drew = vr at *
  clear HS10 HB10 v10
  refine wpS_take HSr (by kernel_rfl) (by intro W hW; have q0 := hW.facts; obtain ⟨_, _, _, _⟩ := q0; clear hW; go_simp; try with_reducible rfl) ?_
  refine wpS_take HSr (by kernel_rfl) (by intro W hW; have q0 := hW.facts; obtain ⟨_, _, _, _⟩ := q0; clear hW; go_simp; try with_reducible rfl) ?_
  try go_simp
  refine wpS_do fun K11 hK11 => ?_
  go_wp2_with fail
  refine (HV1.out _).mono ?_
  rintro e v11 ⟨rfl, hb11⟩
  have HS11 : Hid (NS g1 g2 ⟨x, k⟩ ⟨y, l⟩ v11) := Lib.hid (HSr.out.later hb11)
  have HB11 := Lib.hid (below_then HBr.out hb11)
  clear hb11 HSr HBr
  go_wp2_with fail
  refine hK11.out _ _ HS11.out ?_
  clear hK11 K11
  refine wpS_take HS11 (by kernel_rfl) (by intro W hW; clear hW; go_simp; try with_reducible rfl) ?_
  refine wpS_skip HS11 (by kernel_rfl) ?_
  refine wpS_skip HS11 (by kernel_rfl) ?_
  refine wpS_skip HS11 (by kernel_rfl) ?_
  refine wpS_skip HS11 (by kernel_rfl) ?_
  refine wpS_skip HS11 (by kernel_rfl) ?_
  try go_simp
  refine wpS_do fun K12 hK12 => ?_
  go_wp2_with fail
  refine hK12.out _ _ HS11.out ?_
  clear hK12 K12
  refine wpS_skip HS11 (by kernel_rfl) ?_
  refine wpS_take HS11 (by kernel_rfl) (by intro W hW; clear hW; go_simp; try with_reducible rfl) ?_
  refine wpS_take HS11 (by kernel_rfl) (by intro W hW; clear hW; go_simp; try with_reducible rfl) ?_
  refine wpS_take HS11 (by kernel_rfl) (by intro W hW; clear hW; go_simp; try with_reducible rfl) ?_
  refine wpS_take HS11 (by kernel_rfl) (by intro W hW; have q0 := hW.facts; obtain ⟨_, _, _, _⟩ := q0; clear hW; go_simp; try with_reducible rfl) ?_
  try go_simp
  refine wpS_do fun K13 hK13 => ?_
  go_wp2_with fail
  refine (HH2.out _).mono ?_
  rintro e v13 ⟨rfl, hb13⟩
  have HS13 : Hid (NS g1 g2 ⟨x, k⟩ ⟨y, l⟩ v13) := Lib.hid (HS11.out.later hb13)
  have HB13 := Lib.hid (below_then HB11.out hb13)
  clear hb13 HS11 HB11
  go_wp2_with fail
  refine hK13.out _ _ HS13.out ?_
  clear hK13 K13
  refine wpS_take HS13 (by kernel_rfl) (by intro W hW; clear hW; go_simp; try with_reducible rfl) ?_
  refine wpS_take HS13 (by kernel_rfl) (by intro W hW; clear hW; go_simp; try with_reducible rfl) ?_
  refine wpS_take HS13 (by kernel_rfl) (by intro W hW; clear hW; go_simp; try with_reducible rfl) ?_
  refine wpS_take HS13 (by kernel_rfl) (by intro W hW; clear hW; go_simp; try with_reducible rfl) ?_
  refine wpS_take HS13 (by kernel_rfl) (by intro W hW; clear hW; go_simp; try with_reducible rfl) ?_
  refine wpS_nil ?_
  try go_simp
  obtain ⟨f1, f2, f3, f4⟩ := HS13.out.facts
  go_wp2_with fail
  refine (HT.out _ (HE.out.later HB13.out)).mono ?_
  rintro e v14 ⟨rfl, hb⟩
  have HB14 := Lib.hid (below_then HB13.out hb)
  have HS14 : Hid (NS g1 g2 ⟨x, k⟩ ⟨y, l⟩ v14) := Lib.hid (HS13.out.later hb)
  clear hb HS13 HB13 f1 f2 f3 f4
  obtain ⟨f1, f2, f3, f4⟩ := HS14.out.facts
  go_wp2_with fail
  refine (HR.out _ (HE.out.later HB14.out)).mono ?_
  rintro e v15 ⟨rfl, hb⟩
  have HBz := Lib.hid (below_box (o := (.cells #[.int .u32 x, .int .u8 k] 31)) (below_then HB14.out hb))
  have HSz : Hid (NS g1 v15.heap.size ⟨x, k⟩ ⟨x, k⟩ (v15.alloc (.cells #[.int .u32 x, .int .u8 k] 31))) := Lib.hid (NS.of (HS14.out.later hb).cp)
  clear hb HS14 HB14 f1 f2 f3 f4
  obtain ⟨f1, f2, f3, f4⟩ := HSz.out.facts
  go_wp2_with fail
  generalize v15.alloc (.cells #[.int .u32 x, .int .u8 k] 31) = vz at *
  generalize v15.heap.size = g3 at *
  refine (HD.out _ (HE.out.later HBz.out)).mono ?_
  rintro e v16 ⟨rfl, hb⟩
  have HB16 := Lib.hid (below_then HBz.out hb)
  have HS16 : Hid (NS g1 g3 ⟨x, k⟩ ⟨x, k⟩ v16) := Lib.hid (HSz.out.later hb)
  clear hb HSz HBz f1 f2 f3 f4
  obtain ⟨f1, f2, f3, f4⟩ := HS16.out.facts
  go_wp2_with fail
  refine (HA.out _).mono ?_
  rintro e v17 ⟨rfl, hb⟩
  have HB17 := Lib.hid (below_then HB16.out hb)
  have HS17 : Hid (NS g1 g3 ⟨x, k⟩ ⟨x, k⟩ v17) := Lib.hid (HS16.out.later hb)
  clear hb HS16 HB16 f1 f2 f3 f4
  obtain ⟨f1, f2, f3, f4⟩ := HS17.out.facts
  go_wp2_with fail
  rcases H3.out with ⟨⟨u, v⟩, e1, e2, e3, e4⟩ | ⟨⟨u, v⟩, ge, ad, e1, he, e2, e3, e4⟩ | ⟨⟨u, v⟩, ge, e1, he, e2⟩
  · rw [e1, outP_ok] at HZ1
    rw [e2] at HZ2
    simp only [outN] at HZ2
    have HTy : Hid (∀ W : World, Env W → Calls Tryd.prog 20 #[.agg #[.int .u32 u, .int .u8 v]] W fun e w' => e = .returned (.string s) ∧ Below W.heap.size W w') := Lib.hid (fun W h => by have := text_any ⟨u, v⟩ W e4 h; simp only at this e3; rw [e3] at this; exact this)
    clear e1 e2 e3 e4 H3
    refine (HZ1.out _ (HE.out.later HB17.out)).mono ?_
    rintro e v18 ⟨rfl, hb⟩
    have HBu := Lib.hid (below_box (o := (.cells #[.int .u32 u, .int .u8 v] 31)) (below_then HB17.out hb))
    have HSu : Hid (NS g1 v18.heap.size ⟨x, k⟩ ⟨u, v⟩ (v18.alloc (.cells #[.int .u32 u, .int .u8 v] 31))) := Lib.hid (NS.of (HS17.out.later hb).cp)
    clear hb HS17 HB17 f1 f2 f3 f4
    obtain ⟨f1, f2, f3, f4⟩ := HSu.out.facts
    go_wp2_with fail
    generalize v18.alloc (.cells #[.int .u32 u, .int .u8 v] 31) = vu at *
    generalize v18.heap.size = g4 at *
    refine (HZ2.out _).mono ?_
    rintro e v19 ⟨rfl, hb⟩
    have HB19 := Lib.hid (below_then HBu.out hb)
    have HS19 : Hid (NS g1 g4 ⟨x, k⟩ ⟨u, v⟩ v19) := Lib.hid (HSu.out.later hb)
    clear hb HSu HBu f1 f2 f3 f4
    obtain ⟨f1, f2, f3, f4⟩ := HS19.out.facts
    go_wp2_with fail
    refine (HTy.out _ (HE.out.later HB19.out)).mono ?_
    rintro e v20 ⟨rfl, hb⟩
    have HB20 := Lib.hid (below_then HB19.out hb)
    have HS20 : Hid (NS g1 g4 ⟨x, k⟩ ⟨u, v⟩ v20) := Lib.hid (HS19.out.later hb)
    clear hb HS19 HB19 f1 f2 f3 f4
    obtain ⟨f1, f2, f3, f4⟩ := HS20.out.facts
    go_wp2_with fail
    refine (HQ1.out _).mono ?_
    rintro e w_ ⟨rfl, rfl⟩
    go_wp2_with fail
    refine (HQ2.out _).mono ?_
    rintro e w_ ⟨rfl, rfl⟩
    go_wp2_with fail
    refine (HL.out _ (HE.out.later HB20.out)).mono ?_
    rintro e v23 ⟨rfl, hb⟩
    have HB23 := Lib.hid (below_then HB20.out hb)
    have HS23 : Hid (NS g1 g4 ⟨x, k⟩ ⟨u, v⟩ v23) := Lib.hid (HS20.out.later hb)
    clear hb HS20 HB20 f1 f2 f3 f4
    obtain ⟨f1, f2, f3, f4⟩ := HS23.out.facts
    go_wp2_with fail
    go_ret
    exact ⟨rfl, HB23.out⟩
  · rw [e1, outP_ok] at HZ1
    rw [e2] at HZ2
    simp only [outN] at HZ2
    have HDy : Hid (∀ W : World, Env W → Calls Tryd.prog 18 #[.int .u32 ad] W fun e w' => e = .returned (.string s) ∧ Below W.heap.size W w') := Lib.hid (fun W h => by have := dotted_any ad W e4 h; rw [e3] at this; exact this)
    have he2 : (ge == 0) = false := by rw [beq_eq_false_iff_ne]; exact he
    clear e1 e2 e3 e4 H3
    refine (HZ1.out _ (HE.out.later HB17.out)).mono ?_
    rintro e v18 ⟨rfl, hb⟩
    have HBu := Lib.hid (below_box (o := (.cells #[.int .u32 u, .int .u8 v] 31)) (below_then HB17.out hb))
    have HSu : Hid (NS g1 v18.heap.size ⟨x, k⟩ ⟨u, v⟩ (v18.alloc (.cells #[.int .u32 u, .int .u8 v] 31))) := Lib.hid (NS.of (HS17.out.later hb).cp)
    clear hb HS17 HB17 f1 f2 f3 f4
    obtain ⟨f1, f2, f3, f4⟩ := HSu.out.facts
    go_wp2_with fail
    generalize v18.alloc (.cells #[.int .u32 u, .int .u8 v] 31) = vu at *
    generalize v18.heap.size = g4 at *
    refine (HZ2.out _).mono ?_
    rintro e v19 ⟨rfl, hb⟩
    have HB19 := Lib.hid (below_then HBu.out hb)
    have HS19 : Hid (NS g1 g4 ⟨x, k⟩ ⟨u, v⟩ v19) := Lib.hid (HSu.out.later hb)
    clear hb HSu HBu f1 f2 f3 f4
    obtain ⟨f1, f2, f3, f4⟩ := HS19.out.facts
    go_wp2_with fail
    refine (HDy.out _ (HE.out.later HB19.out)).mono ?_
    rintro e v20 ⟨rfl, hb⟩
    have HB20 := Lib.hid (below_then HB19.out hb)
    have HS20 : Hid (NS g1 g4 ⟨x, k⟩ ⟨u, v⟩ v20) := Lib.hid (HS19.out.later hb)
    clear hb HS19 HB19 f1 f2 f3 f4
    obtain ⟨f1, f2, f3, f4⟩ := HS20.out.facts
    go_wp2_with fail
    refine (HQ1.out _).mono ?_
    rintro e w_ ⟨rfl, rfl⟩
    go_wp2_with fail
    refine (HQ2.out _).mono ?_
    rintro e w_ ⟨rfl, rfl⟩
    go_wp2_with fail
    refine (HL.out _ (HE.out.later HB20.out)).mono ?_
    rintro e v23 ⟨rfl, hb⟩
    have HB23 := Lib.hid (below_then HB20.out hb)
    have HS23 : Hid (NS g1 g4 ⟨x, k⟩ ⟨u, v⟩ v23) := Lib.hid (HS20.out.later hb)
    clear hb HS20 HB20 f1 f2 f3 f4
    obtain ⟨f1, f2, f3, f4⟩ := HS23.out.facts
    go_wp2_with fail
    go_ret
    exact ⟨rfl, HB23.out⟩
  · rw [e1, outP_ok] at HZ1
    rw [e2] at HZ2
    simp only [outN] at HZ2
    have he2 : (ge == 0) = false := by rw [beq_eq_false_iff_ne]; exact he
    clear e1 e2 H3
    refine (HZ1.out _ (HE.out.later HB17.out)).mono ?_
    rintro e v18 ⟨rfl, hb⟩
    have HBu := Lib.hid (below_box (o := (.cells #[.int .u32 u, .int .u8 v] 31)) (below_then HB17.out hb))
    have HSu : Hid (NS g1 v18.heap.size ⟨x, k⟩ ⟨u, v⟩ (v18.alloc (.cells #[.int .u32 u, .int .u8 v] 31))) := Lib.hid (NS.of (HS17.out.later hb).cp)
    clear hb HS17 HB17 f1 f2 f3 f4
    obtain ⟨f1, f2, f3, f4⟩ := HSu.out.facts
    go_wp2_with fail
    generalize v18.alloc (.cells #[.int .u32 u, .int .u8 v] 31) = vu at *
    generalize v18.heap.size = g4 at *
    refine (HZ2.out _).mono ?_
    rintro e v19 ⟨rfl, hb⟩
    have HB19 := Lib.hid (below_then HBu.out hb)
    have HS19 : Hid (NS g1 g4 ⟨x, k⟩ ⟨u, v⟩ v19) := Lib.hid (HSu.out.later hb)
    clear hb HSu HBu f1 f2 f3 f4
    obtain ⟨f1, f2, f3, f4⟩ := HS19.out.facts
    go_wp2_with fail
    refine (HQ1.out _).mono ?_
    rintro e w_ ⟨rfl, rfl⟩
    go_wp2_with fail
    refine (HQ2.out _).mono ?_
    rintro e w_ ⟨rfl, rfl⟩
    go_wp2_with fail
    refine (HL.out _ (HE.out.later HB19.out)).mono ?_
    rintro e v22 ⟨rfl, hb⟩
    have HB22 := Lib.hid (below_then HB19.out hb)
    have HS22 : Hid (NS g1 g4 ⟨x, k⟩ ⟨u, v⟩ v22) := Lib.hid (HS19.out.later hb)
    clear hb HS19 HB19 f1 f2 f3 f4
    obtain ⟨f1, f2, f3, f4⟩ := HS22.out.facts
    go_wp2_with fail
    go_ret
    exact ⟨rfl, HB22.out⟩
set_option maxRecDepth 100000 in
set_option maxHeartbeats 16000000 in
theorem nests_FF (a b n m : Nat) (s : ByteArray) (w : World) (ha : a < 4294967296) (hb : b < 4294967296) (hs : ¬ 2147483647 < s.size) (hE : Env w)
    (zc : covP (a &&& maskN (n % 33)) (n % 33) (b &&& maskN (m % 33)) (m % 33) = false) (zd : covP (b &&& maskN (m % 33)) (m % 33) (a &&& maskN (n % 33)) (n % 33) = false) (zh : hasP (b &&& maskN (m % 33)) (m % 33) a = false) :
    Calls Tryd.prog 5 #[.int .u32 a, .int .u32 b, .int .u8 n, .int .u8 m, .string s] w fun e w' => e = .returned (.bool true) ∧ Below w.heap.size w w' := by
  have HE := Lib.hid hE
  have hkI : Int.tmod (n : Int) 33 = ((n % 33 : Nat) : Int) := by rw [Int.tmod_eq_emod_of_nonneg (by omega)]; omega
  have hmI : Int.tmod (m : Int) 33 = ((m % 33 : Nat) : Int) := by rw [Int.tmod_eq_emod_of_nonneg (by omega)]; omega
  have hk : n % 33 ≤ 32 := by omega
  have hm : m % 33 ≤ 32 := by omega
  generalize n % 33 = k at *
  generalize m % 33 = l at *
  have hx := isP_and ha hk
  have hy := isP_and hb hm
  have hxa := hasP_and ha hk
  have hxm := isP_mul hx
  have hm1 := mk_yes (a := a) hk
  have hm2 := mk_yes (a := b) hm
  have hand := u32_and_nat a (maskN k) ha (maskN_lt k)
  have hbits := bitsN_yes hk rfl
  have HP1 : Hid (∀ W : World, Calls Tryd.prog 22 #[.int .u32 a, .int .u8 k] W fun e w' => e = .returned (.tuple #[.agg #[.int .u32 (a &&& maskN k : Nat), .int .u8 k], .int .i64 0]) ∧ Below W.heap.size W w') := Lib.hid (fun W => by have := make_any a k W ha (by omega); rw [hm1] at this; exact this)
  have HP2 : Hid (∀ W : World, Calls Tryd.prog 22 #[.int .u32 b, .int .u8 l] W fun e w' => e = .returned (.tuple #[.agg #[.int .u32 (b &&& maskN l : Nat), .int .u8 l], .int .i64 0]) ∧ Below W.heap.size W w') := Lib.hid (fun W => by have := make_any b l W hb (by omega); rw [hm2] at this; exact this)
  have HQ1 := Lib.hid (fun W => mask_any k W (by omega))
  have HQ2 : Hid (∀ W : World, Calls Tryd.prog 27 #[.int .u32 (maskN k)] W fun e w' => e = .returned (.tuple #[.int .u8 k, .bool true]) ∧ W = w') := Lib.hid (fun W => by have := bits_any (maskN k) W (maskN_lt k); rw [hbits] at this; exact this)
  have hlx : a &&& maskN k < 4294967296 := Nat.lt_of_le_of_lt Nat.and_le_left ha
  have hly : b &&& maskN l < 4294967296 := Nat.lt_of_le_of_lt Nat.and_le_left hb
  clear hm1 hm2 hbits hE
  generalize a &&& maskN k = x at *
  generalize b &&& maskN l = y at *
  generalize maskN k = M at *
  have px : (Pf.mk x k).ok := ⟨hlx, by simp only; omega⟩
  have py : (Pf.mk y l).ok := ⟨hly, by simp only; omega⟩
  have HH : Hid (∀ W : World, Calls Tryd.prog 23 #[.agg #[.int .u32 x, .int .u8 k], .int .u32 a] W fun e w' => e = .returned (.bool true) ∧ Below W.heap.size W w') := Lib.hid (fun W => by have := has_any ⟨x, k⟩ a W px ha; rw [hxa] at this; exact this)
  have HV0 : Hid (∀ W : World, Calls Tryd.prog 24 #[.agg #[.int .u32 x, .int .u8 k], .agg #[.int .u32 x, .int .u8 k]] W fun e w' => e = .returned (.bool true) ∧ Below W.heap.size W w') := Lib.hid (fun W => by have := covers_any ⟨x, k⟩ ⟨x, k⟩ W px px; rw [covP_self hx] at this; exact this)
  have HO1 : Hid (∀ W : World, Calls Tryd.prog 25 #[.agg #[.int .u32 x, .int .u8 k], .agg #[.int .u32 y, .int .u8 l]] W fun e w' => e = .returned (.bool false) ∧ Below W.heap.size W w') := Lib.hid (fun W => by have := overlap_any ⟨x, k⟩ ⟨y, l⟩ W px py; rw [show overP _ _ _ _ = false by simp [overP, zc, zd]] at this; exact this)
  have HO2 : Hid (∀ W : World, Calls Tryd.prog 25 #[.agg #[.int .u32 y, .int .u8 l], .agg #[.int .u32 x, .int .u8 k]] W fun e w' => e = .returned (.bool false) ∧ Below W.heap.size W w') := Lib.hid (fun W => by have := overlap_any ⟨y, l⟩ ⟨x, k⟩ W py px; rw [show overP _ _ _ _ = false by simp [overP, zc, zd]] at this; exact this)
  have HV1 : Hid (∀ W : World, Calls Tryd.prog 24 #[.agg #[.int .u32 x, .int .u8 k], .agg #[.int .u32 y, .int .u8 l]] W fun e w' => e = .returned (.bool false) ∧ Below W.heap.size W w') := Lib.hid (fun W => by have := covers_any ⟨x, k⟩ ⟨y, l⟩ W px py; rw [zc] at this; exact this)
  have HV2 : Hid (∀ W : World, Calls Tryd.prog 24 #[.agg #[.int .u32 y, .int .u8 l], .agg #[.int .u32 x, .int .u8 k]] W fun e w' => e = .returned (.bool false) ∧ Below W.heap.size W w') := Lib.hid (fun W => by have := covers_any ⟨y, l⟩ ⟨x, k⟩ W py px; rw [zd] at this; exact this)
  have HH2 : Hid (∀ W : World, Calls Tryd.prog 23 #[.agg #[.int .u32 y, .int .u8 l], .int .u32 a] W fun e w' => e = .returned (.bool false) ∧ Below W.heap.size W w') := Lib.hid (fun W => by have := has_any ⟨y, l⟩ a W py ha; rw [zh] at this; exact this)
  have HT : Hid (∀ W : World, Env W → Calls Tryd.prog 20 #[.agg #[.int .u32 x, .int .u8 k]] W fun e w' => e = .returned (.string ⟨(textL x k).toArray⟩) ∧ Below W.heap.size W w') := Lib.hid (fun W h => text_any ⟨x, k⟩ W px h)
  have HR : Hid (∀ W : World, Env W → Calls Tryd.prog 16 #[.string ⟨(textL x k).toArray⟩] W fun e w' => e = .returned (.tuple #[.agg #[.int .u32 x, .int .u8 k], .int .i64 0]) ∧ Below W.heap.size W w') := Lib.hid (fun W h => by have := parse_any W ⟨(textL x k).toArray⟩ (by have := textL_len x k; simp only [ByteArray.size, List.size_toArray]; omega) h; rw [show bytesOf ⟨(textL x k).toArray⟩ = textL x k from rfl, parse_text hlx hx] at this; exact this)
  have HD : Hid (∀ W : World, Env W → Calls Tryd.prog 18 #[.int .u32 b] W fun e w' => e = .returned (.string ⟨(dotL b).toArray⟩) ∧ Below W.heap.size W w') := Lib.hid (fun W h => dotted_any b W hb h)
  have HA : Hid (∀ W : World, Calls Tryd.prog 14 #[.string ⟨(dotL b).toArray⟩] W fun e w' => e = .returned (.tuple #[.int .u32 b, .int .i64 0]) ∧ Below W.heap.size W w') := Lib.hid (fun W => by have := address_any W ⟨(dotL b).toArray⟩ (by have := dotL_len b; simp only [ByteArray.size, List.size_toArray]; omega); rw [show bytesOf ⟨(dotL b).toArray⟩ = dotL b from rfl, adP_dotL hb] at this; exact this)
  have HL : Hid (∀ W : World, Env W → Calls Tryd.prog 7 #[] W fun e w' => e = .returned (.bool true) ∧ Below W.heap.size W w') := fun W h => lives_any W h
  have HG := Lib.hid (fun W => long_any s.size W hs)
  have hsz : s.size ≤ 1099511627776 := by omega
  have HZ1 := Lib.hid (fun W => parse_any W s hsz)
  have HZ2 := Lib.hid (fun W => address_any W s hsz)
  have H3 := Lib.hid (parse_three s)
  clear px py zc zd zh hx hxm hlx hy hly hxa hs hsz ha hb
  have HB0 := Lib.hid (Below.refl w.heap.size w)
  go_enter Tryd.func5, Tryd.ntmps5
  go_wp2_with fail
  refine (HG.out _).mono ?_
  rintro e w_ ⟨rfl, rfl⟩
  go_wp2_with fail
  refine (HP1.out _).mono ?_
  rintro e v2 ⟨rfl, hb⟩
  have HB2 := Lib.hid (below_then HB0.out hb)
  clear hb HB0
  go_wp2_with fail
  have HK1 : Hid (Blk (v2.alloc (.cells #[.int .u32 x, .int .u8 k] 31)) v2.heap.size 31 (cellsP ⟨x, k⟩)) := Lib.hid (Blk.new _ _ _)
  have HBx := Lib.hid (below_box (o := (.cells #[.int .u32 x, .int .u8 k] 31)) HB2.out)
  refine (HP2.out _).mono ?_
  rintro e v3 ⟨rfl, hb⟩
  have HBy := Lib.hid (below_box (o := (.cells #[.int .u32 y, .int .u8 l] 31)) (below_then HBx.out hb))
  have HSy : Hid (NS v2.heap.size v3.heap.size ⟨x, k⟩ ⟨y, l⟩ (v3.alloc (.cells #[.int .u32 y, .int .u8 l] 31))) := Lib.hid (NS.of (HK1.out.later hb))
  have hq := HSy.out.facts
  obtain ⟨f1, f2, f3, f4⟩ := hq
  clear hb HBx HK1 HB2
  go_wp2_with fail
  generalize v3.alloc (.cells #[.int .u32 y, .int .u8 l] 31) = vy at *
  generalize v2.heap.size = g1 at *
  generalize v3.heap.size = g2 at *
  clear v2 v3
  refine (HH.out _).mono ?_
  rintro e v4 ⟨rfl, hb⟩
  have HB4 := Lib.hid (below_then HBy.out hb)
  have HS4 : Hid (NS g1 g2 ⟨x, k⟩ ⟨y, l⟩ v4) := Lib.hid (HSy.out.later hb)
  clear hb HSy HBy f1 f2 f3 f4
  obtain ⟨f1, f2, f3, f4⟩ := HS4.out.facts
  go_wp2_with fail
  refine (HV0.out _).mono ?_
  rintro e v5 ⟨rfl, hb⟩
  have HB5 := Lib.hid (below_then HB4.out hb)
  have HS5 : Hid (NS g1 g2 ⟨x, k⟩ ⟨y, l⟩ v5) := Lib.hid (HS4.out.later hb)
  clear hb HS4 HB4 f1 f2 f3 f4
  obtain ⟨f1, f2, f3, f4⟩ := HS5.out.facts
  go_wp2_with fail
  refine (HO1.out _).mono ?_
  rintro e v6 ⟨rfl, hb⟩
  have HB6 := Lib.hid (below_then HB5.out hb)
  have HS6 : Hid (NS g1 g2 ⟨x, k⟩ ⟨y, l⟩ v6) := Lib.hid (HS5.out.later hb)
  clear hb HS5 HB5 f1 f2 f3 f4
  obtain ⟨f1, f2, f3, f4⟩ := HS6.out.facts
  go_wp2_with fail
  refine (HO2.out _).mono ?_
  rintro e v7 ⟨rfl, hb⟩
  have HB7 := Lib.hid (below_then HB6.out hb)
  have HS7 : Hid (NS g1 g2 ⟨x, k⟩ ⟨y, l⟩ v7) := Lib.hid (HS6.out.later hb)
  clear hb HS6 HB6 f1 f2 f3 f4
  obtain ⟨f1, f2, f3, f4⟩ := HS7.out.facts
  go_wp2_with fail
  refine (HV1.out _).mono ?_
  rintro e v8 ⟨rfl, hb⟩
  have HB8 := Lib.hid (below_then HB7.out hb)
  have HS8 : Hid (NS g1 g2 ⟨x, k⟩ ⟨y, l⟩ v8) := Lib.hid (HS7.out.later hb)
  clear hb HS7 HB7 f1 f2 f3 f4
  obtain ⟨f1, f2, f3, f4⟩ := HS8.out.facts
  go_wp2_with fail
  refine (HV2.out _).mono ?_
  rintro e v9 ⟨rfl, hb⟩
  have HB9 := Lib.hid (below_then HB8.out hb)
  have HS9 : Hid (NS g1 g2 ⟨x, k⟩ ⟨y, l⟩ v9) := Lib.hid (HS8.out.later hb)
  clear hb HS8 HB8 f1 f2 f3 f4
  obtain ⟨f1, f2, f3, f4⟩ := HS9.out.facts
  go_wp2_with fail
  refine (HV1.out _).mono ?_
  rintro e v10 ⟨rfl, hb⟩
  have HB10 := Lib.hid (below_then HB9.out hb)
  have HS10 : Hid (NS g1 g2 ⟨x, k⟩ ⟨y, l⟩ v10) := Lib.hid (HS9.out.later hb)
  clear hb HS9 HB9 f1 f2 f3 f4
  obtain ⟨f1, f2, f3, f4⟩ := HS10.out.facts
  go_wp2_with fail
  clear f1 f2 f3 f4
  refine wp_region_s (NS g1 g2 ⟨x, k⟩ ⟨y, l⟩) [(0, true), (1, true), (2, false), (3, true), (4, true), (5, true), (7, true), (8, true), (9, true), (6, false), (10, true), (11, true), (12, true), (14, true), (13, true), (15, false), (16, true), (17, true), (18, true), (19, true), (20, true)] (by kernel_rfl) (fun _ d _ _ _ h => by cases d <;> exact h) ?_
  simp only [List.map_cons, List.map_nil, nthOp_zero, nthOp_succ]
  have HSr := Lib.hid (HS10.out.later (Below.refl _ _).drew)
  have HBr := Lib.hid (HB10.out.drew)
  generalize v10.drew = vr at *
  clear HS10 HB10 v10
  refine wpS_take HSr (by kernel_rfl) (by intro W hW; have q0 := hW.facts; obtain ⟨_, _, _, _⟩ := q0; clear hW; go_simp; try with_reducible rfl) ?_
  refine wpS_take HSr (by kernel_rfl) (by intro W hW; have q0 := hW.facts; obtain ⟨_, _, _, _⟩ := q0; clear hW; go_simp; try with_reducible rfl) ?_
  try go_simp
  refine wpS_do fun K11 hK11 => ?_
  go_wp2_with fail
  refine (HV1.out _).mono ?_
  rintro e v11 ⟨rfl, hb11⟩
  have HS11 : Hid (NS g1 g2 ⟨x, k⟩ ⟨y, l⟩ v11) := Lib.hid (HSr.out.later hb11)
  have HB11 := Lib.hid (below_then HBr.out hb11)
  clear hb11 HSr HBr
  go_wp2_with fail
  refine hK11.out _ _ HS11.out ?_
  clear hK11 K11
  refine wpS_take HS11 (by kernel_rfl) (by intro W hW; clear hW; go_simp; try with_reducible rfl) ?_
  refine wpS_skip HS11 (by kernel_rfl) ?_
  refine wpS_skip HS11 (by kernel_rfl) ?_
  refine wpS_skip HS11 (by kernel_rfl) ?_
  refine wpS_skip HS11 (by kernel_rfl) ?_
  refine wpS_skip HS11 (by kernel_rfl) ?_
  try go_simp
  refine wpS_do fun K12 hK12 => ?_
  go_wp2_with fail
  refine hK12.out _ _ HS11.out ?_
  clear hK12 K12
  refine wpS_skip HS11 (by kernel_rfl) ?_
  refine wpS_take HS11 (by kernel_rfl) (by intro W hW; clear hW; go_simp; try with_reducible rfl) ?_
  refine wpS_take HS11 (by kernel_rfl) (by intro W hW; clear hW; go_simp; try with_reducible rfl) ?_
  refine wpS_take HS11 (by kernel_rfl) (by intro W hW; clear hW; go_simp; try with_reducible rfl) ?_
  refine wpS_take HS11 (by kernel_rfl) (by intro W hW; have q0 := hW.facts; obtain ⟨_, _, _, _⟩ := q0; clear hW; go_simp; try with_reducible rfl) ?_
  try go_simp
  refine wpS_do fun K13 hK13 => ?_
  go_wp2_with fail
  refine (HH2.out _).mono ?_
  rintro e v13 ⟨rfl, hb13⟩
  have HS13 : Hid (NS g1 g2 ⟨x, k⟩ ⟨y, l⟩ v13) := Lib.hid (HS11.out.later hb13)
  have HB13 := Lib.hid (below_then HB11.out hb13)
  clear hb13 HS11 HB11
  go_wp2_with fail
  refine hK13.out _ _ HS13.out ?_
  clear hK13 K13
  refine wpS_take HS13 (by kernel_rfl) (by intro W hW; clear hW; go_simp; try with_reducible rfl) ?_
  refine wpS_skip HS13 (by kernel_rfl) ?_
  refine wpS_skip HS13 (by kernel_rfl) ?_
  refine wpS_take HS13 (by kernel_rfl) (by intro W hW; clear hW; go_simp; try with_reducible rfl) ?_
  refine wpS_take HS13 (by kernel_rfl) (by intro W hW; clear hW; go_simp; try with_reducible rfl) ?_
  refine wpS_nil ?_
  try go_simp
  obtain ⟨f1, f2, f3, f4⟩ := HS13.out.facts
  go_wp2_with fail
  refine (HT.out _ (HE.out.later HB13.out)).mono ?_
  rintro e v14 ⟨rfl, hb⟩
  have HB14 := Lib.hid (below_then HB13.out hb)
  have HS14 : Hid (NS g1 g2 ⟨x, k⟩ ⟨y, l⟩ v14) := Lib.hid (HS13.out.later hb)
  clear hb HS13 HB13 f1 f2 f3 f4
  obtain ⟨f1, f2, f3, f4⟩ := HS14.out.facts
  go_wp2_with fail
  refine (HR.out _ (HE.out.later HB14.out)).mono ?_
  rintro e v15 ⟨rfl, hb⟩
  have HBz := Lib.hid (below_box (o := (.cells #[.int .u32 x, .int .u8 k] 31)) (below_then HB14.out hb))
  have HSz : Hid (NS g1 v15.heap.size ⟨x, k⟩ ⟨x, k⟩ (v15.alloc (.cells #[.int .u32 x, .int .u8 k] 31))) := Lib.hid (NS.of (HS14.out.later hb).cp)
  clear hb HS14 HB14 f1 f2 f3 f4
  obtain ⟨f1, f2, f3, f4⟩ := HSz.out.facts
  go_wp2_with fail
  generalize v15.alloc (.cells #[.int .u32 x, .int .u8 k] 31) = vz at *
  generalize v15.heap.size = g3 at *
  refine (HD.out _ (HE.out.later HBz.out)).mono ?_
  rintro e v16 ⟨rfl, hb⟩
  have HB16 := Lib.hid (below_then HBz.out hb)
  have HS16 : Hid (NS g1 g3 ⟨x, k⟩ ⟨x, k⟩ v16) := Lib.hid (HSz.out.later hb)
  clear hb HSz HBz f1 f2 f3 f4
  obtain ⟨f1, f2, f3, f4⟩ := HS16.out.facts
  go_wp2_with fail
  refine (HA.out _).mono ?_
  rintro e v17 ⟨rfl, hb⟩
  have HB17 := Lib.hid (below_then HB16.out hb)
  have HS17 : Hid (NS g1 g3 ⟨x, k⟩ ⟨x, k⟩ v17) := Lib.hid (HS16.out.later hb)
  clear hb HS16 HB16 f1 f2 f3 f4
  obtain ⟨f1, f2, f3, f4⟩ := HS17.out.facts
  go_wp2_with fail
  rcases H3.out with ⟨⟨u, v⟩, e1, e2, e3, e4⟩ | ⟨⟨u, v⟩, ge, ad, e1, he, e2, e3, e4⟩ | ⟨⟨u, v⟩, ge, e1, he, e2⟩
  · rw [e1, outP_ok] at HZ1
    rw [e2] at HZ2
    simp only [outN] at HZ2
    have HTy : Hid (∀ W : World, Env W → Calls Tryd.prog 20 #[.agg #[.int .u32 u, .int .u8 v]] W fun e w' => e = .returned (.string s) ∧ Below W.heap.size W w') := Lib.hid (fun W h => by have := text_any ⟨u, v⟩ W e4 h; simp only at this e3; rw [e3] at this; exact this)
    clear e1 e2 e3 e4 H3
    refine (HZ1.out _ (HE.out.later HB17.out)).mono ?_
    rintro e v18 ⟨rfl, hb⟩
    have HBu := Lib.hid (below_box (o := (.cells #[.int .u32 u, .int .u8 v] 31)) (below_then HB17.out hb))
    have HSu : Hid (NS g1 v18.heap.size ⟨x, k⟩ ⟨u, v⟩ (v18.alloc (.cells #[.int .u32 u, .int .u8 v] 31))) := Lib.hid (NS.of (HS17.out.later hb).cp)
    clear hb HS17 HB17 f1 f2 f3 f4
    obtain ⟨f1, f2, f3, f4⟩ := HSu.out.facts
    go_wp2_with fail
    generalize v18.alloc (.cells #[.int .u32 u, .int .u8 v] 31) = vu at *
    generalize v18.heap.size = g4 at *
    refine (HZ2.out _).mono ?_
    rintro e v19 ⟨rfl, hb⟩
    have HB19 := Lib.hid (below_then HBu.out hb)
    have HS19 : Hid (NS g1 g4 ⟨x, k⟩ ⟨u, v⟩ v19) := Lib.hid (HSu.out.later hb)
    clear hb HSu HBu f1 f2 f3 f4
    obtain ⟨f1, f2, f3, f4⟩ := HS19.out.facts
    go_wp2_with fail
    refine (HTy.out _ (HE.out.later HB19.out)).mono ?_
    rintro e v20 ⟨rfl, hb⟩
    have HB20 := Lib.hid (below_then HB19.out hb)
    have HS20 : Hid (NS g1 g4 ⟨x, k⟩ ⟨u, v⟩ v20) := Lib.hid (HS19.out.later hb)
    clear hb HS19 HB19 f1 f2 f3 f4
    obtain ⟨f1, f2, f3, f4⟩ := HS20.out.facts
    go_wp2_with fail
    refine (HQ1.out _).mono ?_
    rintro e w_ ⟨rfl, rfl⟩
    go_wp2_with fail
    refine (HQ2.out _).mono ?_
    rintro e w_ ⟨rfl, rfl⟩
    go_wp2_with fail
    refine (HL.out _ (HE.out.later HB20.out)).mono ?_
    rintro e v23 ⟨rfl, hb⟩
    have HB23 := Lib.hid (below_then HB20.out hb)
    have HS23 : Hid (NS g1 g4 ⟨x, k⟩ ⟨u, v⟩ v23) := Lib.hid (HS20.out.later hb)
    clear hb HS20 HB20 f1 f2 f3 f4
    obtain ⟨f1, f2, f3, f4⟩ := HS23.out.facts
    go_wp2_with fail
    go_ret
    exact ⟨rfl, HB23.out⟩
  · rw [e1, outP_ok] at HZ1
    rw [e2] at HZ2
    simp only [outN] at HZ2
    have HDy : Hid (∀ W : World, Env W → Calls Tryd.prog 18 #[.int .u32 ad] W fun e w' => e = .returned (.string s) ∧ Below W.heap.size W w') := Lib.hid (fun W h => by have := dotted_any ad W e4 h; rw [e3] at this; exact this)
    have he2 : (ge == 0) = false := by rw [beq_eq_false_iff_ne]; exact he
    clear e1 e2 e3 e4 H3
    refine (HZ1.out _ (HE.out.later HB17.out)).mono ?_
    rintro e v18 ⟨rfl, hb⟩
    have HBu := Lib.hid (below_box (o := (.cells #[.int .u32 u, .int .u8 v] 31)) (below_then HB17.out hb))
    have HSu : Hid (NS g1 v18.heap.size ⟨x, k⟩ ⟨u, v⟩ (v18.alloc (.cells #[.int .u32 u, .int .u8 v] 31))) := Lib.hid (NS.of (HS17.out.later hb).cp)
    clear hb HS17 HB17 f1 f2 f3 f4
    obtain ⟨f1, f2, f3, f4⟩ := HSu.out.facts
    go_wp2_with fail
    generalize v18.alloc (.cells #[.int .u32 u, .int .u8 v] 31) = vu at *
    generalize v18.heap.size = g4 at *
    refine (HZ2.out _).mono ?_
    rintro e v19 ⟨rfl, hb⟩
    have HB19 := Lib.hid (below_then HBu.out hb)
    have HS19 : Hid (NS g1 g4 ⟨x, k⟩ ⟨u, v⟩ v19) := Lib.hid (HSu.out.later hb)
    clear hb HSu HBu f1 f2 f3 f4
    obtain ⟨f1, f2, f3, f4⟩ := HS19.out.facts
    go_wp2_with fail
    refine (HDy.out _ (HE.out.later HB19.out)).mono ?_
    rintro e v20 ⟨rfl, hb⟩
    have HB20 := Lib.hid (below_then HB19.out hb)
    have HS20 : Hid (NS g1 g4 ⟨x, k⟩ ⟨u, v⟩ v20) := Lib.hid (HS19.out.later hb)
    clear hb HS19 HB19 f1 f2 f3 f4
    obtain ⟨f1, f2, f3, f4⟩ := HS20.out.facts
    go_wp2_with fail
    refine (HQ1.out _).mono ?_
    rintro e w_ ⟨rfl, rfl⟩
    go_wp2_with fail
    refine (HQ2.out _).mono ?_
    rintro e w_ ⟨rfl, rfl⟩
    go_wp2_with fail
    refine (HL.out _ (HE.out.later HB20.out)).mono ?_
    rintro e v23 ⟨rfl, hb⟩
    have HB23 := Lib.hid (below_then HB20.out hb)
    have HS23 : Hid (NS g1 g4 ⟨x, k⟩ ⟨u, v⟩ v23) := Lib.hid (HS20.out.later hb)
    clear hb HS20 HB20 f1 f2 f3 f4
    obtain ⟨f1, f2, f3, f4⟩ := HS23.out.facts
    go_wp2_with fail
    go_ret
    exact ⟨rfl, HB23.out⟩
  · rw [e1, outP_ok] at HZ1
    rw [e2] at HZ2
    simp only [outN] at HZ2
    have he2 : (ge == 0) = false := by rw [beq_eq_false_iff_ne]; exact he
    clear e1 e2 H3
    refine (HZ1.out _ (HE.out.later HB17.out)).mono ?_
    rintro e v18 ⟨rfl, hb⟩
    have HBu := Lib.hid (below_box (o := (.cells #[.int .u32 u, .int .u8 v] 31)) (below_then HB17.out hb))
    have HSu : Hid (NS g1 v18.heap.size ⟨x, k⟩ ⟨u, v⟩ (v18.alloc (.cells #[.int .u32 u, .int .u8 v] 31))) := Lib.hid (NS.of (HS17.out.later hb).cp)
    clear hb HS17 HB17 f1 f2 f3 f4
    obtain ⟨f1, f2, f3, f4⟩ := HSu.out.facts
    go_wp2_with fail
    generalize v18.alloc (.cells #[.int .u32 u, .int .u8 v] 31) = vu at *
    generalize v18.heap.size = g4 at *
    refine (HZ2.out _).mono ?_
    rintro e v19 ⟨rfl, hb⟩
    have HB19 := Lib.hid (below_then HBu.out hb)
    have HS19 : Hid (NS g1 g4 ⟨x, k⟩ ⟨u, v⟩ v19) := Lib.hid (HSu.out.later hb)
    clear hb HSu HBu f1 f2 f3 f4
    obtain ⟨f1, f2, f3, f4⟩ := HS19.out.facts
    go_wp2_with fail
    refine (HQ1.out _).mono ?_
    rintro e w_ ⟨rfl, rfl⟩
    go_wp2_with fail
    refine (HQ2.out _).mono ?_
    rintro e w_ ⟨rfl, rfl⟩
    go_wp2_with fail
    refine (HL.out _ (HE.out.later HB19.out)).mono ?_
    rintro e v22 ⟨rfl, hb⟩
    have HB22 := Lib.hid (below_then HB19.out hb)
    have HS22 : Hid (NS g1 g4 ⟨x, k⟩ ⟨u, v⟩ v22) := Lib.hid (HS19.out.later hb)
    clear hb HS19 HB19 f1 f2 f3 f4
    obtain ⟨f1, f2, f3, f4⟩ := HS22.out.facts
    go_wp2_with fail
    go_ret
    exact ⟨rfl, HB22.out⟩
set_option maxRecDepth 100000 in
theorem nests_any (a b n m : Nat) (s : ByteArray) (w : World) (ha : a < 4294967296) (hb : b < 4294967296) (hE : Env w) :
    Calls Tryd.prog 5 #[.int .u32 a, .int .u32 b, .int .u8 n, .int .u8 m, .string s] w fun e w' => e = .returned (.bool true) ∧ Below w.heap.size w w' := by
  by_cases hs : 2147483647 < s.size
  · have HE := Lib.hid hE
    clear hE
    have HL : Hid (∀ W : World, Env W → Calls Tryd.prog 7 #[] W fun e w' => e = .returned (.bool true) ∧ Below W.heap.size W w') := fun W h => lives_any W h
    have HG := Lib.hid (fun W => longer_any s.size W hs)
    clear hs
    go_enter Tryd.func5, Tryd.ntmps5
    go_wp2_with fail
    refine (HG.out _).mono ?_
    rintro e w_ ⟨rfl, rfl⟩
    go_wp2_with fail
    refine (HL.out _ HE.out).mono ?_
    rintro e w1 ⟨rfl, hb1⟩
    have HB2 := Lib.hid hb1
    clear hb1
    go_wp2_with fail
    go_ret
    exact ⟨rfl, HB2.out⟩
  have hk : n % 33 ≤ 32 := by omega
  have hl : m % 33 ≤ 32 := by omega
  cases zc : covP (a &&& maskN (n % 33)) (n % 33) (b &&& maskN (m % 33)) (m % 33) <;> cases zd : covP (b &&& maskN (m % 33)) (m % 33) (a &&& maskN (n % 33)) (n % 33) <;> cases zh : hasP (b &&& maskN (m % 33)) (m % 33) a
  · exact nests_FF a b n m s w ha hb hs hE zc zd zh
  · have := has_over (hasP_and ha hk) zh
    unfold overP at this
    rw [zc, zd] at this
    cases this
  · have := cov_has zd (hasP_and ha hk)
    rw [zh] at this; cases this
  · exact nests_FT a b n m s w ha hb hs hE zc zd zh
  · exact nests_TF0 a b n m s w ha hb hs hE zc zd zh
  · exact nests_TF1 a b n m s w ha hb hs hE zc zd zh
  · have := cov_has zd (hasP_and ha hk)
    rw [zh] at this; cases this
  · exact nests_TT a b n m s w ha hb hs hE zc zd zh
end Go.Proofs.YtljmmpjcagchmaaDoor
