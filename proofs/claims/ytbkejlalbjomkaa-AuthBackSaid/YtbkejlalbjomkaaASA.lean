/-
  Sign with a password, of a packet whose Data is nought. Printed by gen_as1.py.
  What a password's signature makes of a packet's bytes: plain laws.
-/
import Derived.Test.YtbkejlalbjomkaaAQ3
import Derived.Test.YtbkejlalbjomkaaOctA4
import Derived.Test.YtbkejlalbjomkaaPk28
import Derived.Test.YtbkejlalbjomkaaAQ4
namespace Go.Proofs.Ytbkejlalbjomkaa
set_option linter.unusedVariables false
open Go.RowKit

def sg3 (xs : List Int) : List Int := ((xs.set 12 0).set 13 0).set 15 1
def sgS (xs : List Int) : Int := 65535 - foldS (ws true (sg3 xs))
def sg5 (xs : List Int) : List Int := ((sg3 xs).set 12 (sgS xs / 256)).set 13 (sgS xs % 256)
/-- What Sign makes of a packet, with a password. -/
def signP (xs : List Int) (k : AK) : List Int := pat (sg5 xs) 16 (pw k.bs) 8
theorem set_sameA {l : List Int} {i : Nat} {v : Int} (h : l[i]? = some v) : l.set i v = l := by
  apply List.ext_getElem?
  intro j
  rw [List.getElem?_set]
  split
  · rename_i e
    subst e
    have := (List.getElem?_eq_some_iff.1 h).1
    rw [if_pos this, h]
  · rfl
theorem SF.clear8z {w W : World} {g : Nat} {ys : List Int} {R : List Value} (h : SF w W g ys R) (hl : 24 ≤ ys.length) (hz : ∀ j, j < 8 → ys[16 + j]? = some 0) : SF w (W.setCells g 16 [.int .u8 0, .int .u8 0, .int .u8 0, .int .u8 0, .int .u8 0, .int .u8 0, .int .u8 0, .int .u8 0]) g ys R :=
  (((((((h.set_ (zs := ys) 16 0 (by omega) (set_sameA (hz 0 (by decide)))).set_ (zs := ys) 17 0 (by omega) (set_sameA (hz 1 (by decide)))).set_ (zs := ys) 18 0 (by omega) (set_sameA (hz 2 (by decide)))).set_ (zs := ys) 19 0 (by omega) (set_sameA (hz 3 (by decide)))).set_ (zs := ys) 20 0 (by omega) (set_sameA (hz 4 (by decide)))).set_ (zs := ys) 21 0 (by omega) (set_sameA (hz 5 (by decide)))).set_ (zs := ys) 22 0 (by omega) (set_sameA (hz 6 (by decide)))).set_ (zs := ys) 23 0 (by omega) (set_sameA (hz 7 (by decide)))
theorem sg3_length (xs : List Int) : (sg3 xs).length = xs.length := by simp [sg3]
theorem sg3_zero {xs : List Int} (h : ∀ j, j < 8 → xs[16 + j]? = some 0) {j : Nat} (hj : j < 8) : (sg3 xs)[16 + j]? = some 0 := by
  unfold sg3
  rw [List.getElem?_set_ne (by omega), List.getElem?_set_ne (by omega), List.getElem?_set_ne (by omega)]
  exact h j hj
theorem oct_setA {xs : List Int} (h : Oct xs) (i : Nat) (v : Int) (hv : 0 ≤ v ∧ v ≤ 255) : Oct (xs.set i v) := Oct.of_mem fun x hx => by
  rcases List.mem_or_eq_of_mem_set hx with h1 | rfl
  · exact h.mem h1
  · exact hv
theorem sg3_oct {xs : List Int} (h : Oct xs) : Oct (sg3 xs) := oct_setA (oct_setA (oct_setA h _ _ (by decide)) _ _ (by decide)) _ _ (by decide)
theorem sg3_12 {xs : List Int} {n : Nat} (h : xs.length = n) (hn : 24 ≤ n) : (sg3 xs)[12]? = some 0 := by
  unfold sg3
  rw [List.getElem?_set_ne (by decide), List.getElem?_set_ne (by decide), List.getElem?_set_self (by omega)]
theorem sg3_13 {xs : List Int} {n : Nat} (h : xs.length = n) (hn : 24 ≤ n) : (sg3 xs)[13]? = some 0 := by
  unfold sg3
  rw [List.getElem?_set_ne (by decide), List.getElem?_set_self (by rw [List.length_set]; omega)]
theorem sgS_range {xs : List Int} (h : Oct xs) : 0 ≤ sgS xs ∧ sgS xs ≤ 65535 := by
  have := foldS_range (ws_nonneg (sg3_oct h) true).1
  unfold sgS
  omega
theorem pw8 (bs : List Int) : ∃ p0 p1 p2 p3 p4 p5 p6 p7, pw bs = [p0, p1, p2, p3, p4, p5, p6, p7] := by
  have h := pw_length bs
  generalize pw bs = l at h
  match l, h with
  | [a, b, c, d, e, f, g, i], _ => exact ⟨_, _, _, _, _, _, _, _, rfl⟩
theorem splice_pat (ys P : List Int) (R : List Value) (h : 24 ≤ ys.length) (hP : P.length = 8) : splice (u8s ys ++ R) 16 (u8s P) = u8s (pat ys 16 P 8) ++ R := by
  have hl : (u8s ys).length = ys.length := by simp [u8s]
  have hp : (u8s P).length = 8 := by simp [u8s, hP]
  unfold splice pat
  rw [List.take_append_of_le_length (by omega), hp, List.drop_append_of_le_length (by omega), List.take_of_length_le (by omega : P.length ≤ 8)]
  simp [u8s]
set_option maxRecDepth 100000 in
set_option maxHeartbeats 8000000 in
theorem sign_plain (A : Option Addr) (n c : Nat) (xs : List Int) (kad : Addr) (m kc : Nat) (L : List AK) (k : AK) (a : Nat) (now sq : Int) (w : World) (hx : Reads w w.heap.size 1 A n (u8s xs)) (ho : Oct xs) (hn24 : 24 ≤ n) (hn : n ≤ 1048576) (hc : n ≤ c) (hm : c ≤ 9223372036854775807)
    (hL : Keys w (some kad) m L) (hm0 : 0 < m) (hmm : m ≤ 131072) (hkc : m ≤ kc) (hkm : kc ≤ 9223372036854775807) (hlen : pkLen xs = ((n : Int), 0)) (hkd : pkKind xs = 0) (hwh : wholeOf xs n = 0) (hz : ∀ j, j < 8 → xs[16 + j]? = some 0) (h15 : xs[15]? = some 0)
    (hck : checkOf L = (0, 0)) (hch : chooseOf L now = (a : Nat)) (hk : L[a]? = some k) (hk1 : k.kind = 1) :
    Calls Try.prog 26 #[.slice A n c, .slice (some kad) m kc, .int .i64 now, .int .u32 sq] w fun e w' => ∃ g cap R, e = .returned (.tuple #[.slice (some ⟨g, 0, none⟩) n cap, .int .i64 0]) ∧ n ≤ cap ∧ cap ≤ 9223372036854775807 ∧ SF w w' g (signP xs k) R := by
  obtain ⟨id, kind, KA, kn, kcc, sf, su, tf, tu, bs⟩ := k
  simp only at hk1
  subst hk1
  have HX := Lib.hid hx
  have HL := Lib.hid hL
  have hxl := hx.u8len
  have ham : a < m := by
    have := (List.getElem?_eq_some_iff.1 hk).1
    have := hL.len
    omega
  have HLen : Hid (∀ W : World, Below w.heap.size w W → Calls Try.prog 15 #[.slice A n c] W fun e w' => PkAt W w' ((n : Int), 0) e) := fun W hb => by
    have := length_any A n c xs W W.heap.size (hx.later hb) ho hc hm
    rwa [hlen] at this
  have HCk : Hid (∀ W : World, Below w.heap.size w W → Calls Try.prog 25 #[.slice (some kad) m kc] W fun e w' => CkAt W w' (0, 0) e) := fun W hb => by
    have := check_any (some kad) m kc L W (hL.later hb) hkc (by omega)
    rwa [hck] at this
  have HCh : Hid (∀ W : World, Below w.heap.size w W → Calls Try.prog 28 #[.slice (some kad) m kc, .int .i64 now] W fun e w' => e = .returned (.int .i64 (a : Nat)) ∧ Below W.heap.size W w') := fun W hb => by
    have := choose_any (some kad) m kc L now W (hL.later hb) (by omega)
    rwa [hch] at this
  have HKd : Hid (∀ W : World, Below w.heap.size w W → Calls Try.prog 71 #[.slice A n c] W fun e w' => e = .returned (.int .u16 0) ∧ ∃ k, w' = W.drewN k) := fun W hb => by
    have := kind_any A n c xs W W.heap.size (hx.later hb) ho (by omega) hc hm
    rwa [hkd] at this
  have HWh : Hid (∀ W : World, Below w.heap.size w W → Calls Try.prog 72 #[.slice A n c, .int .i64 (n : Int)] W fun e w' => e = .returned (.int .i64 0) ∧ Below W.heap.size W w') := fun W hb => by
    have := awhole_any A n c xs n W (hx.later hb) ho hc hm (by omega)
    rwa [hwh] at this
  have HCl : Hid (∀ W : World, Below w.heap.size w W → Calls Try.prog 73 #[.slice A n c] W fun e w' => ∃ v, e = .returned v ∧ w'.ownsRow W.heap.size 5 1 v n (u8s xs) ∧ Below W.heap.size W w') := fun W hb => by
    have := clone_any A n c xs W (hx.later hb) (by omega)
    rwa [hxl] at this
  have HKc : Hid (∀ W : World, Below w.heap.size w W → (W.cell? (kad.add (a * 7)) = some (.int .u8 id) ∧ W.cell? ⟨(kad.add (a * 7)).block, (kad.add (a * 7)).off + 1, none⟩ = some (.int .u16 1) ∧ W.cell? ⟨(kad.add (a * 7)).block, (kad.add (a * 7)).off + 2, none⟩ = some (.slice KA kn kcc) ∧ W.cell? ⟨(kad.add (a * 7)).block, (kad.add (a * 7)).off + 3, none⟩ = some (.int .i64 sf) ∧
      W.cell? ⟨(kad.add (a * 7)).block, (kad.add (a * 7)).off + 4, none⟩ = some (.int .i64 su) ∧ W.cell? ⟨(kad.add (a * 7)).block, (kad.add (a * 7)).off + 5, none⟩ = some (.int .i64 tf) ∧ W.cell? ⟨(kad.add (a * 7)).block, (kad.add (a * 7)).off + 6, none⟩ = some (.int .i64 tu))) := fun W hb => by
    have := (hL.later hb).cells_at (i := a) (k := (⟨id, 1, KA, kn, kcc, sf, su, tf, tu, bs⟩ : AK)) hk
    exact this
  have HKk := Lib.hid (show (⟨id, 1, KA, kn, kcc, sf, su, tf, tu, bs⟩ : AK) ∈ L from List.mem_of_getElem? hk)
  have HO := Lib.hid ho
  have HZ := Lib.hid hz
  have HH15 := Lib.hid h15
  have HXl := Lib.hid hxl
  obtain ⟨y12, hy12⟩ : ∃ y, xs[12]? = some y := ⟨_, List.getElem?_eq_getElem (by omega)⟩
  obtain ⟨y13, hy13⟩ : ∃ y, xs[13]? = some y := ⟨_, List.getElem?_eq_getElem (by omega)⟩
  have H12 := Lib.hid hy12
  have H13 := Lib.hid hy13
  have haI : (a : Int) < (m : Int) := by omega
  have hmI : ¬ (m : Int) = 0 := by omega
  have hmz : ((m : Int) == 0) = false := by simp; omega
  have n12 : (12 : Int) < (n : Int) := by omega
  have n13 : (13 : Int) < (n : Int) := by omega
  have n15 : (15 : Int) < (n : Int) := by omega
  clear hx hL hk hz h15 hxl hy12 hy13 ho hck hch hkd hwh hlen
  go_enter Try.func26, Try.ntmps26
  go_wp2_with (first
    | (go_at_call 15; refine (HLen.out w (Below.refl _ _)).mono ?_; rintro e w1 ⟨rfl, d1, hw1⟩; have H1 : Hid (Below w.heap.size w w1) := hw1 ▸ below_drewN (Below.refl _ _) d1; clear hw1 HLen)
    | (go_at_call 71; refine (HKd.out w1 H1.out).mono ?_; rintro e w2 ⟨rfl, d2, hw2⟩; have H2 : Hid (Below w.heap.size w w2) := hw2 ▸ below_drewN H1.out d2; clear hw2 HKd)
    | (go_at_call 72; refine (HWh.out w2 H2.out).mono ?_; rintro e w3 ⟨rfl, hb⟩; have H3 := Lib.hid (below_then H2.out hb); clear hb HWh)
    | (go_at_call 73; refine (HCl.out w3 H3.out).mono ?_; rintro e w4 ⟨v, rfl, hown, hb⟩; obtain ⟨gc, cap, R, rfl, hge, hcb, hcap, hcm⟩ := CB.of_own hown (by omega) HXl.out; have F4 : Hid (SF w w4 gc xs R) := ⟨hcb, below_then H3.out hb, Nat.le_trans H3.out.size hge⟩; clear hb HCl hown hge hcb)
    | (go_at_call 28; refine (HCh.out w4 F4.out.bel).mono ?_; rintro e w5 ⟨rfl, hb⟩; have F5 := Lib.hid (F4.out.later hb); clear hb HCh)
    | (go_at_call 25; refine (HCk.out w5 F5.out.bel).mono ?_; rintro e w6 ⟨rfl, hb⟩; have F6 := Lib.hid (F5.out.later hb); obtain ⟨q0, q1, q2, q3, q4, q5, q6⟩ := HKc.out w6 F6.out.bel; clear hb HCk))
  have HS7 : Hid (Blk (w6.alloc (.cells #[.int .u8 id, .int .u16 1, .slice KA kn kcc, .int .i64 sf, .int .i64 su, .int .i64 tf, .int .i64 tu] 59)).drew w6.heap.size 59 #[.int .u8 id, .int .u16 1, .slice KA kn kcc, .int .i64 sf, .int .i64 su, .int .i64 tf, .int .i64 tu]) := Blk.new _ _ _
  have F7 : Hid (SF w (w6.alloc (.cells #[.int .u8 id, .int .u16 1, .slice KA kn kcc, .int .i64 sf, .int .i64 su, .int .i64 tf, .int .i64 tu] 59)).drew gc xs R) := ⟨F6.out.cb.later ((Below.refl _ _).alloc (Nat.le_refl _) _).drew, (F6.out.bel.alloc F6.out.bel.size _).drew, F6.out.ge⟩
  have hgk := F6.out.cb.lt
  refine wp_region_s (fun W : World => Blk W w6.heap.size 59 #[.int .u8 id, .int .u16 1, .slice KA kn kcc, .int .i64 sf, .int .i64 su, .int .i64 tf, .int .i64 tu]) [(0, true), (1, true), (2, true), (3, true), (6, true), (4, true), (5, true), (7, false), (8, true), (9, false), (10, true), (11, false)] (by kernel_rfl) (fun _ d _ _ _ h => by cases d <;> exact h) ?_
  simp only [List.map_cons, List.map_nil, nthOp_zero, nthOp_succ]
  clear q0 q1 q2 q3 q4 q5 q6 F4 F5 F6 H1 H2 H3
  generalize (w6.alloc (.cells #[.int .u8 id, .int .u16 1, .slice KA kn kcc, .int .i64 sf, .int .i64 su, .int .i64 tf, .int .i64 tu] 59)).drew = w7 at *
  generalize w6.heap.size = gk at *
  refine wpS_take HS7 (by kernel_rfl) (by intro W hW; have j1 := hW.cell 1; simp only [List.getElem?_toArray, List.getElem?_cons_zero, List.getElem?_cons_succ] at j1; clear hW; go_simp; try with_reducible rfl) ?_
  refine wpS_take HS7 (by kernel_rfl) (by intro W hW; have j1 := hW.cell 1; simp only [List.getElem?_toArray, List.getElem?_cons_zero, List.getElem?_cons_succ] at j1; clear hW; go_simp; try with_reducible rfl) ?_
  refine wpS_take HS7 (by kernel_rfl) (by intro W hW; have j1 := hW.cell 1; simp only [List.getElem?_toArray, List.getElem?_cons_zero, List.getElem?_cons_succ] at j1; clear hW; go_simp; try with_reducible rfl) ?_
  refine wpS_take HS7 (by kernel_rfl) (by intro W hW; have j1 := hW.cell 1; simp only [List.getElem?_toArray, List.getElem?_cons_zero, List.getElem?_cons_succ] at j1; clear hW; go_simp; try with_reducible rfl) ?_
  refine wpS_take HS7 (by kernel_rfl) (by intro W hW; have j1 := hW.cell 1; simp only [List.getElem?_toArray, List.getElem?_cons_zero, List.getElem?_cons_succ] at j1; clear hW; go_simp; try with_reducible rfl) ?_
  refine wpS_take HS7 (by kernel_rfl) (by intro W hW; have j1 := hW.cell 1; simp only [List.getElem?_toArray, List.getElem?_cons_zero, List.getElem?_cons_succ] at j1; clear hW; go_simp; try with_reducible rfl) ?_
  refine wpS_take HS7 (by kernel_rfl) (by intro W hW; have j1 := hW.cell 1; simp only [List.getElem?_toArray, List.getElem?_cons_zero, List.getElem?_cons_succ] at j1; clear hW; go_simp; try with_reducible rfl) ?_
  refine wpS_do fun K1 hK1 => ?_
  have c12 := F7.out.cb.cell (k := 12) (y := y12) H12.out; have f12 := F7.out.cb.frozen 12
  go_wp2
  have F8 := Lib.hid (F7.out.set_ (zs := xs.set 12 0) 12 0 (by have := HXl.out; omega) rfl)
  have HS8 : Hid (Blk (w7.setCell ⟨gc, 12, none⟩ (.int .u8 0)) gk 59 #[.int .u8 id, .int .u16 1, .slice KA kn kcc, .int .i64 sf, .int .i64 su, .int .i64 tf, .int .i64 tu]) := HS7.out.far (p := ⟨gc, 12, none⟩) (Nat.ne_of_gt hgk) _
  refine hK1.out _ _ HS8.out ?_
  clear hK1 K1 c12 f12 HS7 F7
  generalize w7.setCell ⟨gc, 12, none⟩ (.int .u8 0) = w8 at *
  refine wpS_take HS8 (by kernel_rfl) (by intro W hW; have j1 := hW.cell 1; simp only [List.getElem?_toArray, List.getElem?_cons_zero, List.getElem?_cons_succ] at j1; clear hW; go_simp; try with_reducible rfl) ?_
  refine wpS_do fun K1 hK1 => ?_
  have c13 := F8.out.cb.cell (k := 13) (y := y13) ((List.getElem?_set_ne (by decide)).trans H13.out); have f13 := F8.out.cb.frozen 13
  go_wp2
  have F9 := Lib.hid (F8.out.set_ (zs := (xs.set 12 0).set 13 0) 13 0 (by rw [List.length_set]; have := HXl.out; omega) rfl)
  have HS9 : Hid (Blk (w8.setCell ⟨gc, 13, none⟩ (.int .u8 0)) gk 59 #[.int .u8 id, .int .u16 1, .slice KA kn kcc, .int .i64 sf, .int .i64 su, .int .i64 tf, .int .i64 tu]) := HS8.out.far (p := ⟨gc, 13, none⟩) (Nat.ne_of_gt hgk) _
  refine hK1.out _ _ HS9.out ?_
  clear hK1 K1 c13 f13 HS8 F8
  generalize w8.setCell ⟨gc, 13, none⟩ (.int .u8 0) = w9 at *
  refine wpS_take HS9 (by kernel_rfl) (by intro W hW; have j1 := hW.cell 1; simp only [List.getElem?_toArray, List.getElem?_cons_zero, List.getElem?_cons_succ] at j1; clear hW; go_simp; try with_reducible rfl) ?_
  refine wpS_do fun K1 hK1 => ?_
  have c15 := F9.out.cb.cell (k := 15) (y := 0) ((List.getElem?_set_ne (by decide)).trans ((List.getElem?_set_ne (by decide)).trans HH15.out)); have f15 := F9.out.cb.frozen 15
  go_wp2
  have F10 := Lib.hid (F9.out.set_ (zs := sg3 xs) 15 1 (by rw [List.length_set, List.length_set]; have := HXl.out; omega) rfl)
  have HS10 : Hid (Blk (w9.setCell ⟨gc, 15, none⟩ (.int .u8 1)) gk 59 #[.int .u8 id, .int .u16 1, .slice KA kn kcc, .int .i64 sf, .int .i64 su, .int .i64 tf, .int .i64 tu]) := HS9.out.far (p := ⟨gc, 15, none⟩) (Nat.ne_of_gt hgk) _
  refine hK1.out _ _ HS10.out ?_
  clear hK1 K1 c15 f15 HS9 F9
  generalize w9.setCell ⟨gc, 15, none⟩ (.int .u8 1) = w10 at *
  refine wpS_nil ?_
  go_simp
  have j1 : w10.cell? ⟨gk, 1, none⟩ = some (.int .u16 1) := HS10.out.cell 1
  have hclr : ∀ ty, (Builtin.clear_ #[39] ty #[.slice (some ⟨gc, 16, none⟩) 8 (cap - 16)]).run Try.prog w10 = .ok (.tuple #[]) (w10.setCells gc 16 (List.replicate 8 (.int .u8 0))) := fun ty =>
    Lib.run_clear_slice (P := Try.prog) w10 39 5 ty (.int .u8 0) Try.underlying39 (fun _ => by kernel_rfl) rfl rfl gc 16 8 (cap - 16) (by decide)
      (fun j hj => by have h := F10.out.cb.cell (k := 16 + j) (y := 0) (sg3_zero HZ.out hj); rw [h]; rfl) (fun j _ => F10.out.cb.frozen (16 + j))
  have h24c : (24 : Int) ≤ (cap : Int) := by omega
  go_wp2_with fail
  have F11 := Lib.hid (F10.out.clear8z (by rw [sg3_length]; have := HXl.out; omega) (fun j hj => sg3_zero HZ.out hj))
  have HS11 := Lib.hid (blk_clear8 (g := gc) HS10.out (Nat.ne_of_gt hgk))
  clear F10 HS10 hclr j1
  generalize w10.setCells gc 16 [.int .u8 0, .int .u8 0, .int .u8 0, .int .u8 0, .int .u8 0, .int .u8 0, .int .u8 0, .int .u8 0] = w11 at *
  refine (plain_any (some ⟨gc, 0, none⟩) n cap (sg3 xs) w11 w11.heap.size (F11.out.cb.reads (by rw [sg3_length]; exact HXl.out)) (sg3_oct HO.out) hcap hcm).mono ?_
  rw [show (65535 - foldS (ws true (sg3 xs)) : Int) = sgS xs from rfl]
  obtain ⟨s0, s1⟩ : 0 ≤ sgS xs ∧ sgS xs ≤ 65535 := sgS_range HO.out
  rintro e w12 ⟨rfl, d12, hw12⟩
  have F12 : Hid (SF w w12 gc (sg3 xs) R) := hw12 ▸ ⟨F11.out.cb, below_drewN F11.out.bel d12, F11.out.ge⟩
  generalize hSS : sgS xs = S at *
  have HS12 : Hid (Blk w12 gk 59 #[.int .u8 id, .int .u16 1, .slice KA kn kcc, .int .i64 sf, .int .i64 su, .int .i64 tf, .int .i64 tu]) := by rw [hw12]; exact HS11.out.drewN d12
  clear F11 HS11 hw12

  have F13 := Lib.hid (F12.out.set_ (zs := (sg3 xs).set 12 (S / 256)) 12 (S / 256) (by rw [sg3_length]; have := HXl.out; omega) rfl)
  have F14 := Lib.hid (F13.out.set_ (zs := ((sg3 xs).set 12 (S / 256)).set 13 (S % 256)) 13 (S % 256) (by rw [List.length_set, sg3_length]; have := HXl.out; omega) rfl)
  have HS14 : Hid (Blk ((w12.setCell ⟨gc, 12, none⟩ (.int .u8 (S / 256))).setCell ⟨gc, 13, none⟩ (.int .u8 (S % 256))) gk 59 #[.int .u8 id, .int .u16 1, .slice KA kn kcc, .int .i64 sf, .int .i64 su, .int .i64 tf, .int .i64 tu]) := (HS12.out.far (p := ⟨gc, 12, none⟩) (Nat.ne_of_gt hgk) _).far (p := ⟨gc, 13, none⟩) (Nat.ne_of_gt hgk) _
  have c12 := F12.out.cb.cell (k := 12) (y := 0) (sg3_12 HXl.out hn24); have f12 := F12.out.cb.frozen 12; have c13 := F12.out.cb.cell (k := 13) (y := 0) (sg3_13 HXl.out hn24); have f13 := F12.out.cb.frozen 13
  have j0 := HS14.out.cell 0; have j1 := HS14.out.cell 1; have j2 := HS14.out.cell 2; have j3 := HS14.out.cell 3; have j4 := HS14.out.cell 4; have j5 := HS14.out.cell 5; have j6 := HS14.out.cell 6
  simp only [List.getElem?_toArray, List.getElem?_cons_zero, List.getElem?_cons_succ] at j0 j1 j2 j3 j4 j5 j6
  clear F12 HS12 F13
  go_wp2_with fail
  generalize (w12.setCell ⟨gc, 12, none⟩ (.int .u8 (S / 256))).setCell ⟨gc, 13, none⟩ (.int .u8 (S % 256)) = w14 at *
  clear c12 f12 c13 f13 j0 j1 j2 j3 j4 j5 j6
  refine (password_any (⟨id, 1, KA, kn, kcc, sf, su, tf, tu, bs⟩ : AK) w14 ((HL.out.later F14.out.bel).ok _ HKk.out)).mono ?_
  obtain ⟨p0, p1, p2, p3, p4, p5, p6, p7, hpw⟩ := pw8 bs
  rw [show pw (AK.bs (⟨id, 1, KA, kn, kcc, sf, su, tf, tu, bs⟩ : AK)) = [p0, p1, p2, p3, p4, p5, p6, p7] from hpw]
  rw [show (u8s [p0, p1, p2, p3, p4, p5, p6, p7]).toArray = #[.int .u8 p0, .int .u8 p1, .int .u8 p2, .int .u8 p3, .int .u8 p4, .int .u8 p5, .int .u8 p6, .int .u8 p7] from rfl]
  rintro e w15 ⟨rfl, hb⟩
  have HPW := Lib.hid hpw
  have F15 := Lib.hid (F14.out.later hb)
  clear hb F14 HS14 hpw
  go_wp2_with (refine wpList_store_new #[.int .u8 p0, .int .u8 p1, .int .u8 p2, .int .u8 p3, .int .u8 p4, .int .u8 p5, .int .u8 p6, .int .u8 p7] _ 34 rfl rfl i8 rfl (by rfl) ?_)
  have F16 : Hid (SF w (w15.alloc (.cells #[.int .u8 p0, .int .u8 p1, .int .u8 p2, .int .u8 p3, .int .u8 p4, .int .u8 p5, .int .u8 p6, .int .u8 p7] 34)).drew gc (((sg3 xs).set 12 (S / 256)).set 13 (S % 256)) R) := ⟨F15.out.cb.later ((Below.refl _ _).alloc (Nat.le_refl _) _).drew, (F15.out.bel.alloc F15.out.bel.size _).drew, F15.out.ge⟩
  have HP16 : Hid (Blk (w15.alloc (.cells #[.int .u8 p0, .int .u8 p1, .int .u8 p2, .int .u8 p3, .int .u8 p4, .int .u8 p5, .int .u8 p6, .int .u8 p7] 34)).drew w15.heap.size 34 #[.int .u8 p0, .int .u8 p1, .int .u8 p2, .int .u8 p3, .int .u8 p4, .int .u8 p5, .int .u8 p6, .int .u8 p7]) := Blk.new _ _ _
  clear F15
  have hc16 : ¬ cap = 16 := by omega
  refine wp_region_w [(0, true), (1, true), (2, true), (3, false)] (by kernel_rfl) (fun _ d _ _ _ h => by cases d <;> exact h) ?_
  simp only [List.map_cons, List.map_nil, nthOp_zero, nthOp_succ]
  generalize (w15.alloc (.cells #[.int .u8 p0, .int .u8 p1, .int .u8 p2, .int .u8 p3, .int .u8 p4, .int .u8 p5, .int .u8 p6, .int .u8 p7] 34)).drew = w16 at *
  generalize w15.heap.size = gp at *
  refine wpW_take (by rfl) (by intro W; go_simp; try with_reducible rfl) ?_
  refine wpW_take (by rfl) (by intro W; go_simp; try with_reducible rfl) ?_
  refine wpW_take (by rfl) (by intro W; go_simp; try with_reducible rfl) ?_
  refine wpW_do fun K1 hK1 => ?_
  have HG : Hid (w16.heap[gc]? = some (.cells (u8s (((sg3 xs).set 12 (S / 256)).set 13 (S % 256)) ++ R).toArray 5 (0, 0))) := F16.out.cb
  have HP : Hid (0 < ([.int .u8 p0, .int .u8 p1, .int .u8 p2, .int .u8 p3, .int .u8 p4, .int .u8 p5, .int .u8 p6, .int .u8 p7] : List Value).length → ∃ ad : Addr, some (⟨gp, 0, none⟩ : Addr) = some ad ∧ ∀ j v, ([.int .u8 p0, .int .u8 p1, .int .u8 p2, .int .u8 p3, .int .u8 p4, .int .u8 p5, .int .u8 p6, .int .u8 p7] : List Value)[j]? = some v → w16.cell? (ad.add j) = some v) := fun _ =>
    ⟨_, rfl, fun j v hv => by rw [add_none, Nat.zero_add, HP16.out.cell j, List.getElem?_toArray]; exact hv⟩
  have HF : Hid (16 + ([.int .u8 p0, .int .u8 p1, .int .u8 p2, .int .u8 p3, .int .u8 p4, .int .u8 p5, .int .u8 p6, .int .u8 p7] : List Value).length ≤ (u8s (((sg3 xs).set 12 (S / 256)).set 13 (S % 256)) ++ R).length) := by
    show _ ≤ _
    have := HXl.out
    rw [List.length_append, u8s_length, List.length_set, List.length_set, sg3_length, this]
    simp
    omega
  have H1c : Hid (∀ v ∈ ([.int .u8 p0, .int .u8 p1, .int .u8 p2, .int .u8 p3, .int .u8 p4, .int .u8 p5, .int .u8 p6, .int .u8 p7] : List Value), v.oneCell' = true) := by
    show ∀ v ∈ _, _
    intro v hv
    simp at hv
    rcases hv with rfl | rfl | rfl | rfl | rfl | rfl | rfl | rfl <;> rfl
  go_wp2_with (go_loud (refine wpList_copy_splice (o := ⟨some 123, _, _, _, _, _⟩) rfl (.tmp 121) (.tmp 122) 39 39 rfl 5 rfl rfl _ _ _ _ _ _ rfl rfl gc 16 (u8s (((sg3 xs).set 12 (S / 256)).set 13 (S % 256)) ++ R) 5 HG.out [.int .u8 p0, .int .u8 p1, .int .u8 p2, .int .u8 p3, .int .u8 p4, .int .u8 p5, .int .u8 p6, .int .u8 p7] rfl (fun h0 => ⟨rfl, HP.out h0⟩) HF.out H1c.out w.heap.size w F16.out.bel F16.out.ge ?_); intro w17 HG2 hb2)
  refine hK1.out _ _ ?_
  clear hK1 K1
  refine wpW_nil ?_
  go_simp
  go_wp2
  go_ret2
  refine ⟨gc, cap, R, rfl, hcap, hcm, ?_, hb2, F16.out.ge⟩
  have hl := HXl.out
  have h5 : sg5 xs = ((sg3 xs).set 12 (S / 256)).set 13 (S % 256) := by unfold sg5; rw [hSS]
  have h6 := splice_pat (((sg3 xs).set 12 (S / 256)).set 13 (S % 256)) [p0, p1, p2, p3, p4, p5, p6, p7] R (by rw [List.length_set, List.length_set, sg3_length]; omega) rfl
  have hs : signP xs (⟨id, 1, KA, kn, kcc, sf, su, tf, tu, bs⟩ : AK) = pat (((sg3 xs).set 12 (S / 256)).set 13 (S % 256)) 16 [p0, p1, p2, p3, p4, p5, p6, p7] 8 := by
    unfold signP
    rw [h5, show pw (AK.bs (⟨id, 1, KA, kn, kcc, sf, su, tf, tu, bs⟩ : AK)) = [p0, p1, p2, p3, p4, p5, p6, p7] from HPW.out]
  rw [hs]
  show _ = _
  rw [← h6]
  exact HG2

end Go.Proofs.Ytbkejlalbjomkaa
namespace Go.Proofs.Ytbkejlalbjomkaa
set_option linter.unusedVariables false
open Go.RowKit

theorem encL_au (p : PA) (a b : Au) : encL p a = encL p b := by rw [encL_part, encL_part]
theorem encOk_au {p : PA} {a : Au} (h : EncOk p a) (b : Au) (hb : b.k ≤ 2) : EncOk p b := ⟨h.typ, h.alone, h.lens, hb, by rw [encL_au p b a]; exact h.len⟩
theorem au0_ok : (auL 0 []).ok := zeroAu_ok
theorem auL_ok {k : Int} {l : List Int} (hk : 0 ≤ k ∧ k ≤ 65535) (hl : l.length = 8) (ho : Oct l) : (auL k l).ok := by
  obtain ⟨d0, d1, d2, d3, d4, d5, d6, d7, rfl⟩ := take8_of hl
  exact ⟨hk, ho⟩
theorem sg3_enc (p : PA) : sg3 (encB p (auL 0 [])) = hd24 p (auL 1 []) 0 0 ++ partB p := by
  rw [encB_form]
  unfold hd24 sg3
  rw [encL_au p (auL 0 []) (auL 1 [])]
  rfl
theorem ws_data (p : PA) (l : List Int) (T : List Int) : ws true (hd24 p (auL 1 []) 0 0 ++ T) = ws true ((hd24 p (auL 1 l) 0 0).take 16 ++ T) := by
  unfold hd24
  rw [encL_au p (auL 1 []) (auL 1 l)]
  simp [ws, auL]
theorem sgS_enc (p : PA) (l : List Int) : sgS (encB p (auL 0 [])) = encS p (auL 1 l) := by
  unfold sgS encS
  rw [sg3_enc, ws_data p l, encB1_form, sumd_hd]
/-- What is signed with a password is the packet with that password. -/
theorem sign_enc (p : PA) (k : AK) : signP (encB p (auL 0 [])) k = encB p (auL 1 (pw k.bs)) := by
  obtain ⟨p0, p1, p2, p3, p4, p5, p6, p7, hpw⟩ := pw8 k.bs
  unfold signP sg5
  rw [sg3_enc, sgS_enc p (pw k.bs), encB_form p (auL 1 (pw k.bs)), hpw]
  have e1 : sHi p (auL 1 [p0, p1, p2, p3, p4, p5, p6, p7]) = encS p (auL 1 [p0, p1, p2, p3, p4, p5, p6, p7]) / 256 := rfl
  have e2 : sLo p (auL 1 [p0, p1, p2, p3, p4, p5, p6, p7]) = encS p (auL 1 [p0, p1, p2, p3, p4, p5, p6, p7]) % 256 := rfl
  rw [e1, e2]
  unfold hd24
  rw [encL_au p (auL 1 []) (auL 1 [p0, p1, p2, p3, p4, p5, p6, p7])]
  rfl
theorem enc_kind (p : PA) (a : Au) (ha : 0 ≤ a.k ∧ a.k ≤ 65535) : pkKind (encB p a) = a.k := by
  rw [encB_form]
  show a.k / 256 % 256 * 256 + a.k % 256 = a.k
  omega
theorem enc_whole (p : PA) (a : Au) (h : EncOk p a) (hk : a.k ≠ 2) (ho : Oct (encB1 p a)) : wholeOf (encB p a) (encL p a) = 0 := by
  unfold wholeOf
  rw [encB_len, enc_right p a h hk ho]
  simp
theorem enc_zero (p : PA) {j : Nat} (hj : j < 8) : (encB p (auL 0 []))[16 + j]? = some 0 := by
  rw [encB_form]
  rcases (by omega : j = 0 ∨ j = 1 ∨ j = 2 ∨ j = 3 ∨ j = 4 ∨ j = 5 ∨ j = 6 ∨ j = 7) with rfl | rfl | rfl | rfl | rfl | rfl | rfl | rfl <;> rfl
theorem enc_15 (p : PA) : (encB p (auL 0 []))[15]? = some 0 := by rw [encB_form]; rfl
theorem enc_data (p : PA) (l : List Int) (k : Int) (hl : l.length = 8) : ((encB p (auL k l)).drop 16).take 8 = l := by
  rw [encB_form]
  obtain ⟨d0, d1, d2, d3, d4, d5, d6, d7, rfl⟩ := take8_of hl
  rfl
theorem pw_oct {bs : List Int} (h : Oct bs) : Oct (pw bs) := (h.take 8).append (Oct.of_mem fun x hx => by rw [List.mem_replicate] at hx; omega)
theorem pw_short {bs : List Int} (h : bs.length ≤ 8) : pw bs = bs ++ List.replicate (8 - bs.length) 0 := by unfold pw; rw [List.take_of_length_le h]
/-- A chain of one password. -/
theorem check_one (k : AK) : checkOf [k] = if mayB k then (0, 0) else (26, 0) := by
  unfold checkOf
  simp [checkFrom, badB, kind0]
  cases mayB k <;> rfl
theorem may_plain {k : AK} (h : mayB k = true) (hk : k.kind = 1) : 0 < k.n ∧ k.n ≤ 8 ∧ 0 ≤ k.sf ∧ k.sf ≤ k.su ∧ 0 ≤ k.tf ∧ k.tf ≤ k.tu := by
  unfold mayB at h
  rw [hk] at h
  simp [longest] at h
  omega
theorem choose_one {k : AK} (h : k.sf ≤ k.su) : chooseOf [k] k.sf = 0 := by
  unfold chooseOf
  simp [chooseTo, better]
  exact h
theorem taken_one {L : List Int} (k : AK) (now : Int) : (takenTo [k] now [k].length).any (fun q => pw q.1.bs == L) = (tkB now k && (pw k.bs == L)) := by
  unfold takenTo
  simp [List.attach, List.attachWith]
theorem op_one {xs L : List Int} (k : AK) (now : Int) (N : Nat) (hk : (xs.drop 16).take 8 = L) : opOut xs [k] now N = if tkB now k && (pw k.bs == L) then .tuple #[.int .u32 0, .int .i64 N, .int .i64 0] else .tuple #[.int .u32 0, .int .i64 0, .int .i64 26] := by
  unfold opOut
  rw [hk, taken_one]
end Go.Proofs.Ytbkejlalbjomkaa
