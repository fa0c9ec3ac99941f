/-
  Sign with a digest, and with no chain. Printed by gen_ab1.py.
  What a chain signs it opens: plain laws. Printed by gen_ab2.py.
  The walk of AuthBack. Printed by gen_ab3.py.
-/
import Derived.Test.YtbkejlalbjomkaaASA
import Derived.Test.YtbkejlalbjomkaaAQD
import Derived.Test.YtbkejlalbjomkaaAQ4
import Derived.Test.YtbkejlalbjomkaaABP
namespace Go.Proofs.Ytbkejlalbjomkaa
set_option linter.unusedVariables false
open Go.RowKit

/-- What Sign answers. -/
def SgAt (w w' : World) (ys : List Int) (e : Ending) : Prop := ∃ g cap, e = .returned (.tuple #[.slice (some ⟨g, 0, none⟩) ys.length cap, .int .i64 0]) ∧ ys.length ≤ cap ∧ cap ≤ 9223372036854775807 ∧ Reads w' w'.heap.size 1 (some ⟨g, 0, none⟩) ys.length (u8s ys) ∧ Below w.heap.size w w'
def dg3 (xs : List Int) : List Int := ((xs.set 12 0).set 13 0).set 15 2
/-- What stands in a packet's Data that is signed by a digest. -/
def dt8 (id sq : Int) : List Int := [0, 0, id, 16, sq / 16777216, sq / 65536 % 256, sq / 256 % 256, sq % 256]
def dg8 (xs : List Int) (id sq : Int) : List Int := pat (dg3 xs) 16 (dt8 id sq) 8
/-- What Sign makes of a packet, with a digest. -/
def signD (xs : List Int) (k : AK) (sq : Int) : List Int := dg8 xs k.id sq ++ md (dg8 xs k.id sq ++ key16 k.bs)
theorem dg3_length (xs : List Int) : (dg3 xs).length = xs.length := by simp [dg3]
theorem dg3_oct {xs : List Int} (h : Oct xs) : Oct (dg3 xs) := oct_setA (oct_setA (oct_setA h _ _ (by decide)) _ _ (by decide)) _ _ (by decide)
theorem dg8_length {xs : List Int} (id sq : Int) (h : 24 ≤ xs.length) : (dg8 xs id sq).length = xs.length := by
  unfold dg8
  rw [pat_length (by rw [dg3_length]; omega) (by simp [dt8]), dg3_length]
theorem dt8_oct {id sq : Int} (h : 0 ≤ id ∧ id ≤ 255) (h0 : 0 ≤ sq) (h1 : sq ≤ 4294967295) : Oct (dt8 id sq) := Oct.of_mem fun x hx => by
  unfold dt8 at hx
  simp only [List.mem_cons, List.not_mem_nil, or_false] at hx
  omega
theorem dg8_oct {xs : List Int} {id sq : Int} (ho : Oct xs) (h : 0 ≤ id ∧ id ≤ 255) (h0 : 0 ≤ sq) (h1 : sq ≤ 4294967295) : Oct (dg8 xs id sq) := pat_oct (dg3_oct ho) (dt8_oct h h0 h1) _ _
@[reducible] def z16s : Array Value := #[.int .u8 0, .int .u8 0, .int .u8 0, .int .u8 0, .int .u8 0, .int .u8 0, .int .u8 0, .int .u8 0, .int .u8 0, .int .u8 0, .int .u8 0, .int .u8 0, .int .u8 0, .int .u8 0, .int .u8 0, .int .u8 0]
theorem wpList_copy_to {P : Program} {w : World} {ops : Array Oper} {rest : List Oper} {o : Oper} {a : Act} {Q : Exit → Act → World → Prop} (hgd : o.guard = none) (d s : Operand) (dT sT : TypeId)
    (ho : o.op = .call { callee := .builtin .copy, args := #[d, s], argTypes := #[dT, sT] }) (elem : TypeId) (hu : P.underlying dT = some (.slice elem)) (hsz : (P.info? elem).map (·.size) = some 1)
    (g off dLen dCap : Nat) (ad : Addr) (sLen sCap : Nat) (hd : a.eval d = .slice (some ⟨g, off, none⟩) dLen dCap) (hs : a.eval s = .slice (some ad) sLen sCap)
    (cur : Array Value) (t : TypeId) (hg : w.heap[g]? = some (.cells cur t (0, 0))) (cs : List Value) (hn : cs.length = Nat.min sLen dLen)
    (hsrc : ∀ j v, cs[j]? = some v → w.cell? (ad.add j) = some v) (hfit : off + cs.length ≤ cur.size) (h1 : ∀ v ∈ cs, v.oneCell' = true) (row : List Value) (hr : row = splice cur.toList off cs)
    (h : wpList P ops Q rest (a.put o.dst (goInt cs.length)) (w.setRow g row.toArray)) : wpList P ops Q (o :: rest) a w := by
  subst hr
  exact wpList_copy_own hgd d s dT sT ho elem hu hsz g off dLen dCap ad sLen sCap hd hs cur t hg cs hn hsrc hfit h1 (by simpa [splice] using h)
theorem CB.of_own2 {w : World} {base n : Nat} {v : Value} {xs : List Int} (h : w.ownsRow base 5 1 v n (u8s xs)) (hn : 0 < n) (hl : xs.length = n) : ∃ g cap R, v = .slice (some ⟨g, 0, none⟩) n cap ∧ base ≤ g ∧ CB w g xs R ∧ n ≤ cap ∧ cap ≤ 9223372036854775807 ∧ n + R.length = cap := by
  rcases h.2 with ⟨_, h0⟩ | ⟨g, cap, cur, hv, hb, hc, h1, h2, h3, h4⟩
  · omega
  · refine ⟨g, cap, cur.toList.drop n, hv, hb, ?_, h1, h2, ?_⟩
    · show w.heap[g]? = _
      rw [hc, ← h4, Nat.mul_one, List.take_append_drop]
    · rw [List.length_drop, Array.length_toList]
      omega
theorem CB.own {W : World} {g base n cap : Nat} {ys : List Int} {R : List Value} (h : CB W g ys R) (hb : base ≤ g) (hl : ys.length = n) (hc : n + R.length = cap) (hm : cap ≤ 9223372036854775807) : W.ownsRow base 5 1 (.slice (some ⟨g, 0, none⟩) n cap) n (u8s ys) := by
  refine ⟨by rw [u8s_length]; omega, .inr ⟨g, cap, _, rfl, hb, h, by omega, hm, ?_, ?_⟩⟩
  · simp [u8s_length]; omega
  · rw [List.toList_toArray, List.take_append_of_le_length (by rw [u8s_length]; omega), List.take_of_length_le (by rw [u8s_length]; omega)]
set_option maxRecDepth 100000 in
set_option maxHeartbeats 8000000 in
theorem sign_dig (A : Option Addr) (n c : Nat) (xs : List Int) (kad : Addr) (m kc : Nat) (L : List AK) (k : AK) (a : Nat) (now sq : Int) (w : World) (hx : Reads w w.heap.size 1 A n (u8s xs)) (ho : Oct xs) (hn24 : 24 ≤ n) (hn : n ≤ 1048576) (hc : n ≤ c) (hm : c ≤ 9223372036854775807)
    (hL : Keys w (some kad) m L) (hm0 : 0 < m) (hmm : m ≤ 131072) (hkc : m ≤ kc) (hkm : kc ≤ 9223372036854775807) (hlen : pkLen xs = ((n : Int), 0)) (hkd : pkKind xs = 0) (hwh : wholeOf xs n = 0) (h15 : xs[15]? = some 0)
    (hck : checkOf L = (0, 0)) (hch : chooseOf L now = (a : Nat)) (hk : L[a]? = some k) (hk1 : k.kind = 2) (hsq : 0 ≤ sq ∧ sq ≤ 4294967295) (hkn : k.n ≤ 1099511627000) :
    Calls Try.prog 26 #[.slice A n c, .slice (some kad) m kc, .int .i64 now, .int .u32 sq] w fun e w' => SgAt w w' (signD xs k sq) e := by
  obtain ⟨id, kind, KA, kn, kcc, sf, su, tf, tu, bs⟩ := k
  simp only at hk1
  subst hk1
  simp only at hkn
  obtain ⟨q0, q1⟩ := hsq
  have HX := Lib.hid hx
  have HL := Lib.hid hL
  have hxl := hx.u8len
  have ham : a < m := by
    have := (List.getElem?_eq_some_iff.1 hk).1
    have := hL.len
    omega
  have HLen : Hid (∀ W : World, Below w.heap.size w W → Calls Try.prog 15 #[.slice A n c] W fun e w' => PkAt W w' ((n : Int), 0) e) := fun W hb => by
    have := length_any A n c xs W W.heap.size (hx.later hb) ho hc hm
    rwa [hlen] at this
  have HCk : Hid (∀ W : World, Below w.heap.size w W → Calls Try.prog 25 #[.slice (some kad) m kc] W fun e w' => CkAt W w' (0, 0) e) := fun W hb => by
    have := check_any (some kad) m kc L W (hL.later hb) hkc (by omega)
    rwa [hck] at this
  have HCh : Hid (∀ W : World, Below w.heap.size w W → Calls Try.prog 28 #[.slice (some kad) m kc, .int .i64 now] W fun e w' => e = .returned (.int .i64 (a : Nat)) ∧ Below W.heap.size W w') := fun W hb => by
    have := choose_any (some kad) m kc L now W (hL.later hb) (by omega)
    rwa [hch] at this
  have HKd : Hid (∀ W : World, Below w.heap.size w W → Calls Try.prog 71 #[.slice A n c] W fun e w' => e = .returned (.int .u16 0) ∧ ∃ k, w' = W.drewN k) := fun W hb => by
    have := kind_any A n c xs W W.heap.size (hx.later hb) ho (by omega) hc hm
    rwa [hkd] at this
  have HWh : Hid (∀ W : World, Below w.heap.size w W → Calls Try.prog 72 #[.slice A n c, .int .i64 (n : Int)] W fun e w' => e = .returned (.int .i64 0) ∧ Below W.heap.size W w') := fun W hb => by
    have := awhole_any A n c xs n W (hx.later hb) ho hc hm (by omega)
    rwa [hwh] at this
  have HCl : Hid (∀ W : World, Below w.heap.size w W → Calls Try.prog 73 #[.slice A n c] W fun e w' => ∃ v, e = .returned v ∧ w'.ownsRow W.heap.size 5 1 v n (u8s xs) ∧ Below W.heap.size W w') := fun W hb => by
    have := clone_any A n c xs W (hx.later hb) (by omega)
    rwa [hxl] at this
  have HKc : Hid (∀ W : World, Below w.heap.size w W → (W.cell? (kad.add (a * 7)) = some (.int .u8 id) ∧ W.cell? ⟨(kad.add (a * 7)).block, (kad.add (a * 7)).off + 1, none⟩ = some (.int .u16 2) ∧ W.cell? ⟨(kad.add (a * 7)).block, (kad.add (a * 7)).off + 2, none⟩ = some (.slice KA kn kcc) ∧ W.cell? ⟨(kad.add (a * 7)).block, (kad.add (a * 7)).off + 3, none⟩ = some (.int .i64 sf) ∧
      W.cell? ⟨(kad.add (a * 7)).block, (kad.add (a * 7)).off + 4, none⟩ = some (.int .i64 su) ∧ W.cell? ⟨(kad.add (a * 7)).block, (kad.add (a * 7)).off + 5, none⟩ = some (.int .i64 tf) ∧ W.cell? ⟨(kad.add (a * 7)).block, (kad.add (a * 7)).off + 6, none⟩ = some (.int .i64 tu))) := fun W hb => by
    have := (hL.later hb).cells_at (i := a) (k := (⟨id, 2, KA, kn, kcc, sf, su, tf, tu, bs⟩ : AK)) hk
    exact this
  have HKk := Lib.hid (show (⟨id, 2, KA, kn, kcc, sf, su, tf, tu, bs⟩ : AK) ∈ L from List.mem_of_getElem? hk)
  have HO := Lib.hid ho
  have HH15 := Lib.hid h15
  have HXl := Lib.hid hxl
  obtain ⟨y12, hy12⟩ : ∃ y, xs[12]? = some y := ⟨_, List.getElem?_eq_getElem (by omega)⟩
  obtain ⟨y13, hy13⟩ : ∃ y, xs[13]? = some y := ⟨_, List.getElem?_eq_getElem (by omega)⟩
  have H12 := Lib.hid hy12
  have H13 := Lib.hid hy13
  have haI : (a : Int) < (m : Int) := by omega
  have hmI : ¬ (m : Int) = 0 := by omega
  have hmz : ((m : Int) == 0) = false := by simp; omega
  have n12 : (12 : Int) < (n : Int) := by omega
  have n13 : (13 : Int) < (n : Int) := by omega
  have n15 : (15 : Int) < (n : Int) := by omega
  clear hx hL hk h15 hxl hy12 hy13 ho hck hch hkd hwh hlen
  go_enter Try.func26, Try.ntmps26
  go_wp2_with (first
    | (go_at_call 15; refine (HLen.out w (Below.refl _ _)).mono ?_; rintro e w1 ⟨rfl, d1, hw1⟩; have H1 : Hid (Below w.heap.size w w1) := hw1 ▸ below_drewN (Below.refl _ _) d1; clear hw1 HLen)
    | (go_at_call 71; refine (HKd.out w1 H1.out).mono ?_; rintro e w2 ⟨rfl, d2, hw2⟩; have H2 : Hid (Below w.heap.size w w2) := hw2 ▸ below_drewN H1.out d2; clear hw2 HKd)
    | (go_at_call 72; refine (HWh.out w2 H2.out).mono ?_; rintro e w3 ⟨rfl, hb⟩; have H3 := Lib.hid (below_then H2.out hb); clear hb HWh)
    | (go_at_call 73; refine (HCl.out w3 H3.out).mono ?_; rintro e w4 ⟨v, rfl, hown, hb⟩; obtain ⟨gc, cap, R, rfl, hge, hcb, hcap, hcm, hRl⟩ := CB.of_own2 hown (by omega) HXl.out; have F4 : Hid (SF w w4 gc xs R) := ⟨hcb, below_then H3.out hb, Nat.le_trans H3.out.size hge⟩; clear hb HCl hown hge hcb)
    | (go_at_call 28; refine (HCh.out w4 F4.out.bel).mono ?_; rintro e w5 ⟨rfl, hb⟩; have F5 := Lib.hid (F4.out.later hb); clear hb HCh)
    | (go_at_call 25; refine (HCk.out w5 F5.out.bel).mono ?_; rintro e w6 ⟨rfl, hb⟩; have F6 := Lib.hid (F5.out.later hb); obtain ⟨r0, r1, r2, r3, r4, r5, r6⟩ := HKc.out w6 F6.out.bel; clear hb HCk))
  have HS7 : Hid (Blk (w6.alloc (.cells #[.int .u8 id, .int .u16 2, .slice KA kn kcc, .int .i64 sf, .int .i64 su, .int .i64 tf, .int .i64 tu] 59)).drew w6.heap.size 59 #[.int .u8 id, .int .u16 2, .slice KA kn kcc, .int .i64 sf, .int .i64 su, .int .i64 tf, .int .i64 tu]) := Blk.new _ _ _
  have F7 : Hid (SF w (w6.alloc (.cells #[.int .u8 id, .int .u16 2, .slice KA kn kcc, .int .i64 sf, .int .i64 su, .int .i64 tf, .int .i64 tu] 59)).drew gc xs R) := ⟨F6.out.cb.later ((Below.refl _ _).alloc (Nat.le_refl _) _).drew, (F6.out.bel.alloc F6.out.bel.size _).drew, F6.out.ge⟩
  have hgk := F6.out.cb.lt
  refine wp_region_s (fun W : World => Blk W w6.heap.size 59 #[.int .u8 id, .int .u16 2, .slice KA kn kcc, .int .i64 sf, .int .i64 su, .int .i64 tf, .int .i64 tu]) [(0, true), (1, true), (2, true), (3, true), (6, true), (4, true), (5, true), (7, false), (8, true), (9, false), (10, true), (11, false)] (by kernel_rfl) (fun _ d _ _ _ h => by cases d <;> exact h) ?_
  simp only [List.map_cons, List.map_nil, nthOp_zero, nthOp_succ]
  clear r0 r1 r2 r3 r4 r5 r6 F4 F5 F6 H1 H2 H3
  generalize (w6.alloc (.cells #[.int .u8 id, .int .u16 2, .slice KA kn kcc, .int .i64 sf, .int .i64 su, .int .i64 tf, .int .i64 tu] 59)).drew = w7 at *
  generalize w6.heap.size = gk at *
  refine wpS_take HS7 (by kernel_rfl) (by intro W hW; have j1 := hW.cell 1; simp only [List.getElem?_toArray, List.getElem?_cons_zero, List.getElem?_cons_succ] at j1; clear hW; go_simp; try with_reducible rfl) ?_
  refine wpS_take HS7 (by kernel_rfl) (by intro W hW; have j1 := hW.cell 1; simp only [List.getElem?_toArray, List.getElem?_cons_zero, List.getElem?_cons_succ] at j1; clear hW; go_simp; try with_reducible rfl) ?_
  refine wpS_take HS7 (by kernel_rfl) (by intro W hW; have j1 := hW.cell 1; simp only [List.getElem?_toArray, List.getElem?_cons_zero, List.getElem?_cons_succ] at j1; clear hW; go_simp; try with_reducible rfl) ?_
  refine wpS_take HS7 (by kernel_rfl) (by intro W hW; have j1 := hW.cell 1; simp only [List.getElem?_toArray, List.getElem?_cons_zero, List.getElem?_cons_succ] at j1; clear hW; go_simp; try with_reducible rfl) ?_
  refine wpS_take HS7 (by kernel_rfl) (by intro W hW; have j1 := hW.cell 1; simp only [List.getElem?_toArray, List.getElem?_cons_zero, List.getElem?_cons_succ] at j1; clear hW; go_simp; try with_reducible rfl) ?_
  refine wpS_take HS7 (by kernel_rfl) (by intro W hW; have j1 := hW.cell 1; simp only [List.getElem?_toArray, List.getElem?_cons_zero, List.getElem?_cons_succ] at j1; clear hW; go_simp; try with_reducible rfl) ?_
  refine wpS_take HS7 (by kernel_rfl) (by intro W hW; have j1 := hW.cell 1; simp only [List.getElem?_toArray, List.getElem?_cons_zero, List.getElem?_cons_succ] at j1; clear hW; go_simp; try with_reducible rfl) ?_
  refine wpS_do fun K1 hK1 => ?_
  have c12 := F7.out.cb.cell (k := 12) (y := y12) H12.out; have f12 := F7.out.cb.frozen 12
  go_wp2
  have F8 := Lib.hid (F7.out.set_ (zs := xs.set 12 0) 12 0 (by have := HXl.out; omega) rfl)
  have HS8 : Hid (Blk (w7.setCell ⟨gc, 12, none⟩ (.int .u8 0)) gk 59 #[.int .u8 id, .int .u16 2, .slice KA kn kcc, .int .i64 sf, .int .i64 su, .int .i64 tf, .int .i64 tu]) := HS7.out.far (p := ⟨gc, 12, none⟩) (Nat.ne_of_gt hgk) _
  refine hK1.out _ _ HS8.out ?_
  clear hK1 K1 c12 f12 HS7 F7
  generalize w7.setCell ⟨gc, 12, none⟩ (.int .u8 0) = w8 at *
  refine wpS_take HS8 (by kernel_rfl) (by intro W hW; have j1 := hW.cell 1; simp only [List.getElem?_toArray, List.getElem?_cons_zero, List.getElem?_cons_succ] at j1; clear hW; go_simp; try with_reducible rfl) ?_
  refine wpS_do fun K1 hK1 => ?_
  have c13 := F8.out.cb.cell (k := 13) (y := y13) ((List.getElem?_set_ne (by decide)).trans H13.out); have f13 := F8.out.cb.frozen 13
  go_wp2
  have F9 := Lib.hid (F8.out.set_ (zs := (xs.set 12 0).set 13 0) 13 0 (by rw [List.length_set]; have := HXl.out; omega) rfl)
  have HS9 : Hid (Blk (w8.setCell ⟨gc, 13, none⟩ (.int .u8 0)) gk 59 #[.int .u8 id, .int .u16 2, .slice KA kn kcc, .int .i64 sf, .int .i64 su, .int .i64 tf, .int .i64 tu]) := HS8.out.far (p := ⟨gc, 13, none⟩) (Nat.ne_of_gt hgk) _
  refine hK1.out _ _ HS9.out ?_
  clear hK1 K1 c13 f13 HS8 F8
  generalize w8.setCell ⟨gc, 13, none⟩ (.int .u8 0) = w9 at *
  refine wpS_take HS9 (by kernel_rfl) (by intro W hW; have j1 := hW.cell 1; simp only [List.getElem?_toArray, List.getElem?_cons_zero, List.getElem?_cons_succ] at j1; clear hW; go_simp; try with_reducible rfl) ?_
  refine wpS_do fun K1 hK1 => ?_
  have c15 := F9.out.cb.cell (k := 15) (y := 0) ((List.getElem?_set_ne (by decide)).trans ((List.getElem?_set_ne (by decide)).trans HH15.out)); have f15 := F9.out.cb.frozen 15
  go_wp2
  have F10 := Lib.hid (F9.out.set_ (zs := dg3 xs) 15 2 (by rw [List.length_set, List.length_set]; have := HXl.out; omega) rfl)
  have HS10 : Hid (Blk (w9.setCell ⟨gc, 15, none⟩ (.int .u8 2)) gk 59 #[.int .u8 id, .int .u16 2, .slice KA kn kcc, .int .i64 sf, .int .i64 su, .int .i64 tf, .int .i64 tu]) := HS9.out.far (p := ⟨gc, 15, none⟩) (Nat.ne_of_gt hgk) _
  refine hK1.out _ _ HS10.out ?_
  clear hK1 K1 c15 f15 HS9 F9
  generalize w9.setCell ⟨gc, 15, none⟩ (.int .u8 2) = w10 at *
  refine wpS_nil ?_
  go_simp
  have j1 : w10.cell? ⟨gk, 1, none⟩ = some (.int .u16 2) := HS10.out.cell 1
  have h24c : (24 : Int) ≤ (cap : Int) := by omega
  go_wp2_with fail
  clear j1
  have F11 : Hid (SF w w10.drew gc (dg3 xs) R) := ⟨F10.out.cb, F10.out.bel.drew, F10.out.ge⟩
  have HS11 : Hid (Blk w10.drew gk 59 #[.int .u8 id, .int .u16 2, .slice KA kn kcc, .int .i64 sf, .int .i64 su, .int .i64 tf, .int .i64 tu]) := HS10.out
  clear F10 HS10
  have hc16 : ¬ cap = 16 := by omega
  refine wp_region_s (fun W : World => Blk W gk 59 #[.int .u8 id, .int .u16 2, .slice KA kn kcc, .int .i64 sf, .int .i64 su, .int .i64 tf, .int .i64 tu]) [(0, true), (1, true), (2, true), (4, true), (5, true), (6, true), (7, true), (8, true), (9, true), (10, true), (11, true), (12, true), (13, true), (14, true), (3, true), (15, false), (16, false)] (by kernel_rfl) (fun _ d _ _ _ h => by cases d <;> exact h) ?_
  simp only [List.map_cons, List.map_nil, nthOp_zero, nthOp_succ]
  generalize w10.drew = w11 at *
  refine wpS_take HS11 (by kernel_rfl) (by intro W hW; have j0 := hW.cell 0; simp only [List.getElem?_toArray, List.getElem?_cons_zero, List.getElem?_cons_succ] at j0; clear hW; go_simp; try with_reducible rfl) ?_
  refine wpS_take HS11 (by kernel_rfl) (by intro W hW; have j0 := hW.cell 0; simp only [List.getElem?_toArray, List.getElem?_cons_zero, List.getElem?_cons_succ] at j0; clear hW; go_simp; try with_reducible rfl) ?_
  refine wpS_take HS11 (by kernel_rfl) (by intro W hW; have j0 := hW.cell 0; simp only [List.getElem?_toArray, List.getElem?_cons_zero, List.getElem?_cons_succ] at j0; clear hW; go_simp; try with_reducible rfl) ?_
  refine wpS_take HS11 (by kernel_rfl) (by intro W hW; have j0 := hW.cell 0; simp only [List.getElem?_toArray, List.getElem?_cons_zero, List.getElem?_cons_succ] at j0; clear hW; go_simp; try with_reducible rfl) ?_
  refine wpS_take HS11 (by kernel_rfl) (by intro W hW; have j0 := hW.cell 0; simp only [List.getElem?_toArray, List.getElem?_cons_zero, List.getElem?_cons_succ] at j0; clear hW; go_simp; try with_reducible rfl) ?_
  refine wpS_take HS11 (by kernel_rfl) (by intro W hW; have j0 := hW.cell 0; simp only [List.getElem?_toArray, List.getElem?_cons_zero, List.getElem?_cons_succ] at j0; clear hW; go_simp; try with_reducible rfl) ?_
  refine wpS_take HS11 (by kernel_rfl) (by intro W hW; have j0 := hW.cell 0; simp only [List.getElem?_toArray, List.getElem?_cons_zero, List.getElem?_cons_succ] at j0; clear hW; go_simp; try with_reducible rfl) ?_
  refine wpS_take HS11 (by kernel_rfl) (by intro W hW; have j0 := hW.cell 0; simp only [List.getElem?_toArray, List.getElem?_cons_zero, List.getElem?_cons_succ] at j0; clear hW; go_simp; try with_reducible rfl) ?_
  refine wpS_take HS11 (by kernel_rfl) (by intro W hW; have j0 := hW.cell 0; simp only [List.getElem?_toArray, List.getElem?_cons_zero, List.getElem?_cons_succ] at j0; clear hW; go_simp; try with_reducible rfl) ?_
  refine wpS_take HS11 (by kernel_rfl) (by intro W hW; have j0 := hW.cell 0; simp only [List.getElem?_toArray, List.getElem?_cons_zero, List.getElem?_cons_succ] at j0; clear hW; go_simp; try with_reducible rfl) ?_
  refine wpS_take HS11 (by kernel_rfl) (by intro W hW; have j0 := hW.cell 0; simp only [List.getElem?_toArray, List.getElem?_cons_zero, List.getElem?_cons_succ] at j0; clear hW; go_simp; try with_reducible rfl) ?_
  refine wpS_take HS11 (by kernel_rfl) (by intro W hW; have j0 := hW.cell 0; simp only [List.getElem?_toArray, List.getElem?_cons_zero, List.getElem?_cons_succ] at j0; clear hW; go_simp; try with_reducible rfl) ?_
  refine wpS_take HS11 (by kernel_rfl) (by intro W hW; have j0 := hW.cell 0; simp only [List.getElem?_toArray, List.getElem?_cons_zero, List.getElem?_cons_succ] at j0; clear hW; go_simp; try with_reducible rfl) ?_
  refine wpS_take HS11 (by kernel_rfl) (by intro W hW; have j0 := hW.cell 0; simp only [List.getElem?_toArray, List.getElem?_cons_zero, List.getElem?_cons_succ] at j0; clear hW; go_simp; try with_reducible rfl) ?_
  refine wpS_take HS11 (by kernel_rfl) (by intro W hW; have j0 := hW.cell 0; simp only [List.getElem?_toArray, List.getElem?_cons_zero, List.getElem?_cons_succ] at j0; clear hW; go_simp; try with_reducible rfl) ?_
  refine wpS_do fun K1 hK1 => ?_
  go_wp2_with fail
  have HDd : Hid (Blk (w11.alloc (.cells #[.int .u8 0, .int .u8 0, .int .u8 id, .int .u8 16, .int .u8 (sq / 16777216), .int .u8 (sq / 65536 % 256), .int .u8 (sq / 256 % 256), .int .u8 (sq % 256)] 5)) w11.heap.size 5 #[.int .u8 0, .int .u8 0, .int .u8 id, .int .u8 16, .int .u8 (sq / 16777216), .int .u8 (sq / 65536 % 256), .int .u8 (sq / 256 % 256), .int .u8 (sq % 256)]) := Blk.new _ _ _
  have F12 : Hid (SF w (w11.alloc (.cells #[.int .u8 0, .int .u8 0, .int .u8 id, .int .u8 16, .int .u8 (sq / 16777216), .int .u8 (sq / 65536 % 256), .int .u8 (sq / 256 % 256), .int .u8 (sq % 256)] 5)) gc (dg3 xs) R) := ⟨F11.out.cb.later ((Below.refl _ _).alloc (Nat.le_refl _) _), F11.out.bel.alloc F11.out.bel.size _, F11.out.ge⟩
  have HS12 : Hid (Blk (w11.alloc (.cells #[.int .u8 0, .int .u8 0, .int .u8 id, .int .u8 16, .int .u8 (sq / 16777216), .int .u8 (sq / 65536 % 256), .int .u8 (sq / 256 % 256), .int .u8 (sq % 256)] 5)) gk 59 #[.int .u8 id, .int .u16 2, .slice KA kn kcc, .int .i64 sf, .int .i64 su, .int .i64 tf, .int .i64 tu]) := HS11.out.alloc _
  refine hK1.out _ _ HS12.out ?_
  clear hK1 K1 F11 HS11
  generalize w11.alloc (.cells #[.int .u8 0, .int .u8 0, .int .u8 id, .int .u8 16, .int .u8 (sq / 16777216), .int .u8 (sq / 65536 % 256), .int .u8 (sq / 256 % 256), .int .u8 (sq % 256)] 5) = w12 at *
  generalize w11.heap.size = gp at *
  refine wpS_do fun K1 hK1 => ?_
  have HG : Hid (w12.heap[gc]? = some (.cells (u8s (dg3 xs) ++ R).toArray 5 (0, 0))) := F12.out.cb
  have HP : Hid (∀ j v, ([.int .u8 0, .int .u8 0, .int .u8 id, .int .u8 16, .int .u8 (sq / 16777216), .int .u8 (sq / 65536 % 256), .int .u8 (sq / 256 % 256), .int .u8 (sq % 256)] : List Value)[j]? = some v → w12.cell? ((⟨gp, 0, none⟩ : Addr).add j) = some v) := fun j v hv => by rw [add_none, Nat.zero_add, HDd.out.cell j, List.getElem?_toArray]; exact hv
  have HF : Hid (16 + ([.int .u8 0, .int .u8 0, .int .u8 id, .int .u8 16, .int .u8 (sq / 16777216), .int .u8 (sq / 65536 % 256), .int .u8 (sq / 256 % 256), .int .u8 (sq % 256)] : List Value).length ≤ (u8s (dg3 xs) ++ R).toArray.size) := by
    show _ ≤ _
    have := HXl.out
    rw [List.size_toArray, List.length_append, u8s_length, dg3_length, this]
    simp
    omega
  have H1c : Hid (∀ v ∈ ([.int .u8 0, .int .u8 0, .int .u8 id, .int .u8 16, .int .u8 (sq / 16777216), .int .u8 (sq / 65536 % 256), .int .u8 (sq / 256 % 256), .int .u8 (sq % 256)] : List Value), v.oneCell' = true) := by
    show ∀ v ∈ _, _
    intro v hv
    simp at hv
    rcases hv with rfl | rfl | rfl | rfl | rfl | rfl | rfl | rfl <;> rfl
  have HRw : Hid (u8s (dg8 xs id sq) ++ R = splice (u8s (dg3 xs) ++ R) 16 [.int .u8 0, .int .u8 0, .int .u8 id, .int .u8 16, .int .u8 (sq / 16777216), .int .u8 (sq / 65536 % 256), .int .u8 (sq / 256 % 256), .int .u8 (sq % 256)]) := (splice_pat (dg3 xs) (dt8 id sq) R (by rw [dg3_length]; have := HXl.out; omega) rfl).symm
  go_wp2_with (go_loud (refine wpList_copy_to (o := ⟨some 97, _, _, _, _, _⟩) rfl (.tmp 82) (.tmp 96) 39 39 rfl 5 rfl rfl gc 16 8 (cap - 16) ⟨gp, 0, none⟩ 8 8 rfl rfl _ 5 HG.out [.int .u8 0, .int .u8 0, .int .u8 id, .int .u8 16, .int .u8 (sq / 16777216), .int .u8 (sq / 65536 % 256), .int .u8 (sq / 256 % 256), .int .u8 (sq % 256)] rfl HP.out HF.out H1c.out _ HRw.out ?_))
  have F13 : Hid (SF w (w12.setRow gc (u8s (dg8 xs id sq) ++ R).toArray) gc (dg8 xs id sq) R) := ⟨Blk.setRow F12.out.cb _, below_setRow F12.out.bel F12.out.ge _, F12.out.ge⟩
  have HS13 : Hid (Blk (w12.setRow gc (u8s (dg8 xs id sq) ++ R).toArray) gk 59 #[.int .u8 id, .int .u16 2, .slice KA kn kcc, .int .i64 sf, .int .i64 su, .int .i64 tf, .int .i64 tu]) := HS12.out.setRow_far (Nat.ne_of_gt hgk) _
  refine hK1.out _ _ HS13.out ?_
  clear hK1 K1 F12 HS12 HG HP HF H1c HRw HDd
  generalize w12.setRow gc (u8s (dg8 xs id sq) ++ R).toArray = w13 at *
  refine wpS_nil ?_
  go_simp
  have j2 : w13.cell? ⟨gk, 2, none⟩ = some (.slice KA kn kcc) := HS13.out.cell 2
  go_wp2_with fail
  clear j2
  have hko := (HL.out.later F13.out.bel).ok _ HKk.out
  have hid : 0 ≤ id ∧ id ≤ 255 := hko.id
  have hdl : (dg8 xs id sq).length = n := by rw [dg8_length id sq (by have := HXl.out; omega)]; exact HXl.out
  refine (keyed_any KA (some ⟨gc, 0, none⟩) kn kcc n cap bs (dg8 xs id sq) w13 hko.sec (F13.out.cb.reads hdl) hko.oct (dg8_oct HO.out hid q0 q1) (by omega) (by omega)).mono ?_
  rintro e w14 ⟨rfl, hb⟩
  have F14 := Lib.hid (F13.out.later hb)
  have HM : Hid ((md (dg8 xs id sq ++ key16 bs)).length = 16) := md_len _
  have HSd : Hid (signD xs (⟨id, 2, KA, kn, kcc, sf, su, tf, tu, bs⟩ : AK) sq = dg8 xs id sq ++ md (dg8 xs id sq ++ key16 bs)) := rfl
  generalize md (dg8 xs id sq ++ key16 bs) = M at *
  clear hb F13 HS13 hko
  have HI : Hid ((Try.prog.info? 116).map (·.size) = some (u8s M).toArray.size ∧ z16s.size = (u8s M).toArray.size ∧ (u8s M).toArray.all (·.oneCell') = true) := by
    have e : (u8s M).toArray.size = 16 := by rw [List.size_toArray, u8s_length]; exact HM.out
    exact ⟨by rw [e]; exact i27, by rw [e]; rfl, by simp [u8s, Value.oneCell']⟩
  have F15 : Hid (SF w (w14.alloc (.cells (u8s M).toArray 116)) gc (dg8 xs id sq) R) := ⟨F14.out.cb.later ((Below.refl _ _).alloc (Nat.le_refl _) _), F14.out.bel.alloc F14.out.bel.size _, F14.out.ge⟩
  have HOw : Hid ((w14.alloc (.cells (u8s M).toArray 116)).ownsRow w.heap.size 5 1 (.slice (some ⟨gc, 0, none⟩) n cap) n (u8s (dg8 xs id sq))) := F15.out.cb.own F15.out.ge hdl hRl hcm
  have HMr : Hid (Reads (w14.alloc (.cells (u8s M).toArray 116)) (w14.alloc (.cells (u8s M).toArray 116)).heap.size 1 (some ⟨w14.heap.size, 0, none⟩) 16 (u8s M)) := Reads.lit_ w14 (u8s M) 116 (by rw [u8s_length]; exact HM.out)
  go_wp2_with (first
    | (refine wpList_store_new (u8s M).toArray z16s 116 rfl rfl HI.out.1 HI.out.2.1 HI.out.2.2 ?_)
    | (at_builtin; refine wpList_app el_u8 rfl (.tmp 102) (.tmp 103) rfl HOw.out rfl HMr.out rfl u8s_one (by simp only [maxLen]; omega) (by omega) F15.out.bel.size ?_; intro v5 w5 ho5 hb5 _ _; have HO5 := Lib.hid ho5; have H5 := Lib.hid hb5; clear ho5 hb5))
  go_ret2
  have hl : (signD xs (⟨id, 2, KA, kn, kcc, sf, su, tf, tu, bs⟩ : AK) sq).length = n + 16 := by rw [HSd.out, List.length_append, hdl, HM.out]
  have h5 := HO5.out
  rw [← u8s_append, ← HSd.out] at h5
  obtain ⟨g5, cap5, R5, rfl, hg5, hc5, h15, hm5, _⟩ := CB.of_own2 h5 (by omega) hl
  refine ⟨g5, cap5, by rw [hl]; rfl, by omega, hm5, ?_, ?_⟩
  · rw [hl]; exact hc5.reads hl
  · exact F15.out.bel.trans H5.out
set_option maxRecDepth 100000 in
set_option maxHeartbeats 8000000 in
theorem sign_nil (A : Option Addr) (n c : Nat) (xs : List Int) (KA : Option Addr) (kc : Nat) (now sq : Int) (w : World) (hx : Reads w w.heap.size 1 A n (u8s xs)) (ho : Oct xs) (hn24 : 24 ≤ n) (hn : n ≤ 1048576) (hc : n ≤ c) (hm : c ≤ 9223372036854775807)
    (hlen : pkLen xs = ((n : Int), 0)) (hkd : pkKind xs = 0) (hwh : wholeOf xs n = 0) :
    Calls Try.prog 26 #[.slice A n c, .slice KA 0 kc, .int .i64 now, .int .u32 sq] w fun e w' => SgAt w w' xs e := by
  have hxl := hx.u8len
  have HLen : Hid (∀ W : World, Below w.heap.size w W → Calls Try.prog 15 #[.slice A n c] W fun e w' => PkAt W w' ((n : Int), 0) e) := fun W hb => by
    have := length_any A n c xs W W.heap.size (hx.later hb) ho hc hm
    rwa [hlen] at this
  have HKd : Hid (∀ W : World, Below w.heap.size w W → Calls Try.prog 71 #[.slice A n c] W fun e w' => e = .returned (.int .u16 0) ∧ ∃ k, w' = W.drewN k) := fun W hb => by
    have := kind_any A n c xs W W.heap.size (hx.later hb) ho (by omega) hc hm
    rwa [hkd] at this
  have HWh : Hid (∀ W : World, Below w.heap.size w W → Calls Try.prog 72 #[.slice A n c, .int .i64 (n : Int)] W fun e w' => e = .returned (.int .i64 0) ∧ Below W.heap.size W w') := fun W hb => by
    have := awhole_any A n c xs n W (hx.later hb) ho hc hm (by omega)
    rwa [hwh] at this
  have HCl : Hid (∀ W : World, Below w.heap.size w W → Calls Try.prog 73 #[.slice A n c] W fun e w' => ∃ v, e = .returned v ∧ w'.ownsRow W.heap.size 5 1 v n (u8s xs) ∧ Below W.heap.size W w') := fun W hb => by
    have := clone_any A n c xs W (hx.later hb) (by omega)
    rwa [hxl] at this
  have HXl := Lib.hid hxl
  clear hx hxl ho hkd hwh hlen
  go_enter Try.func26, Try.ntmps26
  go_wp2_with (first
    | (go_at_call 15; refine (HLen.out w (Below.refl _ _)).mono ?_; rintro e w1 ⟨rfl, d1, hw1⟩; have H1 : Hid (Below w.heap.size w w1) := hw1 ▸ below_drewN (Below.refl _ _) d1; clear hw1 HLen)
    | (go_at_call 71; refine (HKd.out w1 H1.out).mono ?_; rintro e w2 ⟨rfl, d2, hw2⟩; have H2 : Hid (Below w.heap.size w w2) := hw2 ▸ below_drewN H1.out d2; clear hw2 HKd)
    | (go_at_call 72; refine (HWh.out w2 H2.out).mono ?_; rintro e w3 ⟨rfl, hb⟩; have H3 := Lib.hid (below_then H2.out hb); clear hb HWh)
    | (go_at_call 73; refine (HCl.out w3 H3.out).mono ?_; rintro e w4 ⟨v, rfl, hown, hb⟩; obtain ⟨gc, cap, R, rfl, hge, hcb, hcap, hcm⟩ := CB.of_own hown (by omega) HXl.out; have H4 := Lib.hid (below_then H3.out hb); have HCB := Lib.hid hcb; clear hb HCl hown hge hcb))
  go_ret2
  refine ⟨gc, cap, by rw [HXl.out]; rfl, by rw [HXl.out]; exact hcap, hcm, ?_, H4.out⟩
  rw [HXl.out]
  exact HCB.out.reads HXl.out
/-- Sign with a password, as the others. -/
theorem sgAt_plain {w w' : World} {n : Nat} {xs : List Int} {k : AK} {e : Ending} (hl : (signP xs k).length = n) (h : ∃ g cap R, e = .returned (.tuple #[.slice (some ⟨g, 0, none⟩) n cap, .int .i64 0]) ∧ n ≤ cap ∧ cap ≤ 9223372036854775807 ∧ SF w w' g (signP xs k) R) : SgAt w w' (signP xs k) e := by
  obtain ⟨g, cap, R, rfl, h1, h2, h3⟩ := h
  refine ⟨g, cap, by rw [hl], by rw [hl]; exact h1, h2, ?_, h3.bel⟩
  rw [hl]
  exact h3.cb.reads hl
end Go.Proofs.Ytbkejlalbjomkaa
namespace Go.Proofs.Ytbkejlalbjomkaa
set_option linter.unusedVariables false
open Go.RowKit

theorem EqPa.of_same {p q r : PA} (h : SameP p q) (e : EqPa r q) : EqPa r p := by
  obtain ⟨e1, e2, e3, e4, e5, e6, e7, e8⟩ := e
  have hs : q.ss.map SE.hb = p.ss.map SE.hb := by
    have := congrArg (List.map fun c : Hd × Nat × List Int => (c.1, c.2.2)) h.st
    rw [List.map_map, List.map_map] at this
    exact this
  rw [hs] at e7
  have he := h.eq
  have z_typ : q.typ = p.typ := (congrArg PA.typ he).trans rfl
  have z_router : q.router = p.router := (congrArg PA.router he).trans rfl
  have z_area : q.area = p.area := (congrArg PA.area he).trans rfl
  have z_mask : q.mask = p.mask := (congrArg PA.mask he).trans rfl
  have z_ivl : q.ivl = p.ivl := (congrArg PA.ivl he).trans rfl
  have z_hopts : q.hopts = p.hopts := (congrArg PA.hopts he).trans rfl
  have z_pri : q.pri = p.pri := (congrArg PA.pri he).trans rfl
  have z_dead : q.dead = p.dead := (congrArg PA.dead he).trans rfl
  have z_dr : q.dr = p.dr := (congrArg PA.dr he).trans rfl
  have z_bdr : q.bdr = p.bdr := (congrArg PA.bdr he).trans rfl
  have z_nb : q.nb = p.nb := (congrArg PA.nb he).trans rfl
  have z_mtu : q.mtu = p.mtu := (congrArg PA.mtu he).trans rfl
  have z_dopts : q.dopts = p.dopts := (congrArg PA.dopts he).trans rfl
  have z_flags : q.flags = p.flags := (congrArg PA.flags he).trans rfl
  have z_seq : q.seq = p.seq := (congrArg PA.seq he).trans rfl
  have z_dh : q.dh = p.dh := (congrArg PA.dh he).trans rfl
  have z_ks : q.ks = p.ks := (congrArg PA.ks he).trans rfl
  have z_hs : q.hs = p.hs := (congrArg PA.hs he).trans rfl
  refine ⟨e1.trans z_typ, e2.trans z_router, e3.trans z_area, ?_, ?_, e6.trans z_ks, e7, e8.trans z_hs⟩
  · obtain ⟨h1, h2, h3, h4, h5, h6, h7, h8⟩ := e4
    exact ⟨h1.trans z_mask, h2.trans z_ivl, h3.trans z_hopts, h4.trans z_pri, h5.trans z_dead, h6.trans z_dr, h7.trans z_bdr, h8.trans z_nb⟩
  · obtain ⟨h1, h2, h3, h4, h5⟩ := e5
    exact ⟨h1.trans z_mtu, h2.trans z_dopts, h3.trans z_flags, h4.trans z_seq, h5.trans z_dh⟩
theorem EqPa.rng {p q : PA} (e : EqPa q p) (r : p.rng) : q.rng := by
  obtain ⟨e1, e2, e3, ⟨h1, h2, h3, h4, h5, h6, h7, h8⟩, ⟨k1, k2, k3, k4, k5⟩, e6, e7, e8⟩ := e
  exact ⟨by rw [e1]; exact r.typ, by rw [e2]; exact r.router, by rw [e3]; exact r.area, by rw [h1]; exact r.mask, by rw [h2]; exact r.ivl, by rw [h3]; exact r.hopts, by rw [h4]; exact r.pri, by rw [h5]; exact r.dead, by rw [h6]; exact r.dr, by rw [h7]; exact r.bdr, by rw [k1]; exact r.mtu, by rw [k2]; exact r.dopts, by rw [k3]; exact r.flags, by rw [k4]; exact r.seq, by rw [h8]; exact r.nb, by rw [k5]; exact r.dh, by rw [e6]; exact r.ks, by rw [e8]; exact r.hs⟩
theorem PA.rd.bl {p : PA} {w : World} (h : p.rd w) : ∀ s ∈ p.ss, s.B.length = s.n := fun s hs => (h.sa s hs).body.u8len
theorem EqPa.few {p q : PA} {w W : World} (e : EqPa q p) (hp : p.rd w) (hq : q.rd W) (f : p.few) : q.few := by
  obtain ⟨e1, e2, e3, ⟨h1, h2, h3, h4, h5, h6, h7, h8⟩, ⟨k1, k2, k3, k4, k5⟩, e6, e7, e8⟩ := e
  have l7 := congrArg List.length e7
  rw [List.length_map, List.length_map, hq.ok.sl, hp.ok.sl] at l7
  refine ⟨by rw [← hq.ok.nl, h8, hp.ok.nl]; exact f.n, by rw [← hq.ok.dl, k5, hp.ok.dl]; exact f.d, by rw [← hq.ok.kl, e6, hp.ok.kl]; exact f.k, by rw [l7]; exact f.s, by rw [← hq.ok.hl, e8, hp.ok.hl]; exact f.h, fun s hs => ?_⟩
  have m : s.hb ∈ q.ss.map SE.hb := List.mem_map.2 ⟨s, hs, rfl⟩
  rw [e7] at m
  obtain ⟨t, ht, et⟩ := List.mem_map.1 m
  have b := f.b t ht
  have l1 := hp.bl t ht
  have l2 := hq.bl s hs
  have l3 : t.B = s.B := congrArg Prod.snd et
  rw [← l2, ← l3, l1]
  exact b
theorem Enc.of_rd {q : PA} {a : Au} {w : World} (h : EncOk q a) (hr : q.rd w) (hf : q.few) (ha : a.ok) : Enc q a := ⟨h, hr.ok, ha, encB1_oct hr.ok ha hr hf, fun s hs => ⟨hr.bl s hs, (hr.sa s hs).head⟩⟩

theorem dg8_enc (p : PA) (id sq : Int) : dg8 (encB p (auL 0 [])) id sq = encB p (auL 2 (dt8 id sq)) := by
  unfold dg8 dg3
  rw [encB_form, encB_form p (auL 2 (dt8 id sq))]
  unfold hd24
  rw [encL_au p (auL 0 []) (auL 2 (dt8 id sq))]
  rfl
theorem sign_encD (p : PA) (k : AK) (sq : Int) : signD (encB p (auL 0 [])) k sq = encB p (auL 2 (dt8 k.id sq)) ++ md (encB p (auL 2 (dt8 k.id sq)) ++ key16 k.bs) := by
  unfold signD
  rw [dg8_enc]
/-- The authentication that a key lays. -/
def auS (k : AK) (sq : Int) : Au := if k.kind = 2 then auL 2 (dt8 k.id sq) else auL 1 (pw k.bs)
def tailS (p : PA) (k : AK) (sq : Int) : List Int := if k.kind = 2 then md (encB p (auL 2 (dt8 k.id sq)) ++ key16 k.bs) else []
/-- What a key signs. -/
def sgB (p : PA) (k : AK) (sq : Int) : List Int := encB p (auS k sq) ++ tailS p k sq
theorem sgB_two {p : PA} {k : AK} {sq : Int} (h : k.kind = 2) : sgB p k sq = signD (encB p (auL 0 [])) k sq := by
  unfold sgB auS tailS
  rw [if_pos h, if_pos h, sign_encD]
theorem sgB_one {p : PA} {k : AK} {sq : Int} (h : k.kind = 1) : sgB p k sq = signP (encB p (auL 0 [])) k := by
  unfold sgB auS tailS
  rw [if_neg (by omega), if_neg (by omega), sign_enc, List.append_nil]
theorem getD_app {xs : List Int} (D : List Int) {i : Nat} (h : i < xs.length) : (xs ++ D).getD i 0 = xs.getD i 0 := by
  simp [List.getD, List.getElem?_append_left h]
theorem pkLen_app {xs : List Int} (D : List Int) (h : (pkLen xs).2 = 0) : pkLen (xs ++ D) = pkLen xs := by
  have h1 := pkLen_ok h
  have g0 := getD_app D (xs := xs) (i := 0) (by omega)
  have g1 := getD_app D (xs := xs) (i := 1) (by omega)
  have g2 := getD_app D (xs := xs) (i := 2) (by omega)
  have g3 := getD_app D (xs := xs) (i := 3) (by omega)
  have e : pkLen xs = (xs.getD 2 0 * 256 + xs.getD 3 0, 0) ∧ xs.getD 0 0 = 2 ∧ ¬ (xs.getD 1 0 < 1 ∨ 5 < xs.getD 1 0) := by
    unfold pkLen at h ⊢
    split at h
    · cases h
    · split at h
      · cases h
      · split at h
        · cases h
        · split at h
          · cases h
          · rename_i h1 h2 h3 h4
            rw [if_neg h1, if_neg h2, if_neg h3, if_neg h4]
            exact ⟨rfl, Decidable.not_not.1 h2, h3⟩
  have h2 := h1.2
  rw [e.1] at h2 h1 ⊢
  unfold pkLen
  rw [g0, g1, g2, g3, if_neg (by rw [List.length_append]; omega), if_neg (by omega), if_neg e.2.2, if_neg (by rw [List.length_append]; simp only at h1; omega)]
theorem cut_app {xs : List Int} (D : List Int) {a b : Nat} (h : a + b ≤ xs.length) : ((xs ++ D).drop a).take b = (xs.drop a).take b := by
  rw [List.drop_append_of_le_length (by omega), List.take_append_of_le_length (by rw [List.length_drop]; omega)]
theorem kdAt_app {xs : List Int} (D : List Int) (h : 24 ≤ xs.length) : kdAt (xs ++ D) = kdAt xs := by unfold kdAt; rw [cut_app D (by omega)]
theorem tyAt_app {xs : List Int} (D : List Int) (h : 24 ≤ xs.length) : tyAt (xs ++ D) = tyAt xs := by unfold tyAt; rw [cut_app D (by omega)]
theorem auAt_app {xs : List Int} (D : List Int) (h : 24 ≤ xs.length) : auAt (xs ++ D) = auAt xs := by unfold auAt; rw [kdAt_app D h, cut_app D (by omega)]
theorem pkKind_app {xs : List Int} (D : List Int) (h : 24 ≤ xs.length) : pkKind (xs ++ D) = pkKind xs := by unfold pkKind; rw [getD_app D (by omega), getD_app D (by omega)]
theorem pkB_app {p : PA} {a : Au} (D : List Int) (h : EncOk p a) : pkB (encB p a ++ D) = encB p a := by
  unfold pkB
  rw [pkLen_app D (by rw [enc_pkLen p a h]), enc_pkLen p a h, Int.toNat_natCast, List.take_append_of_le_length (by rw [encB_len]; exact Nat.le_refl _)]
  exact take_all (encB_len p a)
/-- What was encoded is a packet, with something behind it where a digest may stand. -/
theorem Enc.dec_app {p : PA} {a : Au} (h : Enc p a) (D : List Int) (hD : a.k ≠ 2 → D = []) : DecOk (encB p a ++ D) := by
  by_cases hk : a.k = 2
  · have hl := encB_len p a
    have hg := encL_ge p a
    have d := h.dec
    have e : kdAt (encB p a ++ D) = 2 := by rw [kdAt_app D (by omega), encB_kd p a h.au.k, hk]
    refine ⟨by rw [pkLen_app D d.len]; exact d.len, by rw [e]; decide, fun n => absurd e n, fun n => absurd e n, ?_⟩
    rw [pkB_app D h.e, tyAt_app D (by omega)]
    have := d.part
    rwa [enc_pkB p a h.e] at this
  · rw [hD hk, List.append_nil]
    exact h.dec
theorem Enc.same_app {p q : PA} {a : Au} (h : Enc p a) (D : List Int) (hq : PIs (pkB (encB p a ++ D)) (tyAt (encB p a ++ D)) (be (((encB p a ++ D).drop 4).take 4)) (be (((encB p a ++ D).drop 8).take 4)) q) : EqPa q p := by
  have hl := encB_len p a
  have hg := encL_ge p a
  rw [pkB_app D h.e, tyAt_app D (by omega), cut_app D (by omega), cut_app D (by omega)] at hq
  refine h.same ?_
  rw [enc_pkB p a h.e]
  exact hq
theorem or_sum (A B k : Nat) (hB : B < 2 ^ k) (hx : A * 2 ^ k ≤ 4294967295) (hy : B ≤ 4294967295) : bits .or .u32 ((A * 2 ^ k : Nat) : Int) (B : Int) = ((A * 2 ^ k + B : Nat) : Int) := by
  rw [u32_or _ _ (by omega) (by omega) (by omega) (by omega), Int.toNat_natCast, Int.toNat_natCast, nat_or_add A B k hB]
theorem or_four (a b c d : Int) (ha : 0 ≤ a ∧ a ≤ 255) (hb : 0 ≤ b ∧ b ≤ 255) (hc : 0 ≤ c ∧ c ≤ 255) (hd : 0 ≤ d ∧ d ≤ 255) :
    bits .or .u32 (bits .or .u32 (bits .or .u32 (a * 16777216) (b * 65536)) (c * 256)) d = a * 16777216 + b * 65536 + c * 256 + d := by
  obtain ⟨a, rfl⟩ := Int.eq_ofNat_of_zero_le ha.1
  obtain ⟨b, rfl⟩ := Int.eq_ofNat_of_zero_le hb.1
  obtain ⟨c, rfl⟩ := Int.eq_ofNat_of_zero_le hc.1
  obtain ⟨d, rfl⟩ := Int.eq_ofNat_of_zero_le hd.1
  rw [show ((a : Int) * 16777216) = ((a * 2 ^ 24 : Nat) : Int) by omega, show ((b : Int) * 65536) = ((b * 65536 : Nat) : Int) by omega, or_sum a (b * 65536) 24 (by omega) (by omega) (by omega),
    show a * 2 ^ 24 + b * 65536 = (a * 256 + b) * 2 ^ 16 by omega, show ((c : Int) * 256) = ((c * 256 : Nat) : Int) by omega, or_sum (a * 256 + b) (c * 256) 16 (by omega) (by omega) (by omega),
    show (a * 256 + b) * 2 ^ 16 + c * 256 = (a * 65536 + b * 256 + c) * 2 ^ 8 by omega, or_sum (a * 65536 + b * 256 + c) d 8 (by omega) (by omega) (by omega)]
  omega
theorem seq_enc (p : PA) (id sq : Int) (D : List Int) (h0 : 0 ≤ sq) (h1 : sq ≤ 4294967295) : seqOf (encB p (auL 2 (dt8 id sq)) ++ D) = sq := by
  unfold seqOf
  rw [encB_form]
  show bits .or .u32 (bits .or .u32 (bits .or .u32 (sq / 16777216 * 16777216) (sq / 65536 % 256 * 65536)) (sq / 256 % 256 * 256)) (sq % 256) = sq
  rw [or_four _ _ _ _ (by omega) (by omega) (by omega) (by omega)]
  omega
theorem check_all {L : List AK} : ∀ f i, checkFrom L f i = (0, 0) → ∀ j k, i ≤ j → j < i + f → L[j]? = some k → badB L k = false := by
  intro f
  induction f with
  | zero => intro i _ j k h1 h2; omega
  | succ f ih =>
    intro i h j k h1 h2 hk
    unfold checkFrom at h
    cases hi : L[i]? with
    | none =>
      have := List.getElem?_eq_none_iff.1 hi
      have := (List.getElem?_eq_some_iff.1 hk).1
      omega
    | some o =>
      rw [hi] at h
      simp only at h
      split at h
      · cases h
      · rename_i hb
        split at h
        · cases h
        · rcases Nat.lt_or_ge i j with hij | hij
          · exact ih (i + 1) h j k hij (by omega) hk
          · obtain rfl : i = j := by omega
            rw [hi] at hk
            injection hk with hk
            subst hk
            simpa using hb
theorem check_key {L : List AK} (h : checkOf L = (0, 0)) {a : Nat} {k : AK} (hk : L[a]? = some k) : mayB k = true ∧ k.kind = kind0 L := by
  have hl := (List.getElem?_eq_some_iff.1 hk).1
  unfold checkOf at h
  split at h
  · cases h
  · have := check_all _ _ h a k (by omega) (by omega) hk
    unfold badB at this
    simpa using this
theorem enc_kind0 (p : PA) : pkKind (encB p (auL 0 [])) = 0 := enc_kind p (auL 0 []) (by show (0 : Int) ≤ 0 ∧ (0 : Int) ≤ 65535; decide)
/-- What is known of what a key signed. -/
structure SgF (p : PA) (L : List AK) (k : AK) (now sq : Int) (n : Nat) (ys : List Int) : Prop where
  oct : Oct ys
  len : n ≤ ys.length ∧ ys.length ≤ n + 16
  nil : openOf ys [] now = (0, 0, 25)
  own : tkB now k = true → ∃ s, openOf ys L now = (s, (n : Int), 0) ∧ (k.kind = 2 → s = sq)
  dec : DecOk ys
  au : (auAt ys).k = k.kind
  same : ∀ q, PIs (pkB ys) (tyAt ys) (be ((ys.drop 4).take 4)) (be ((ys.drop 8).take 4)) q → EqPa q p
theorem auS_ok {k : AK} {sq : Int} (hid : 0 ≤ k.id ∧ k.id ≤ 255) (hb : Oct k.bs) (h0 : 0 ≤ sq) (h1 : sq ≤ 4294967295) : (auS k sq).ok := by
  unfold auS
  split
  · exact auL_ok (by decide) rfl (dt8_oct hid h0 h1)
  · exact auL_ok (by decide) (pw_length _) (pw_oct hb)
theorem auS_k {k : AK} {sq : Int} (h : k.kind = 1 ∨ k.kind = 2) : (auS k sq).k = k.kind := by
  unfold auS
  rcases h with h | h
  · rw [if_neg (by omega), h]; rfl
  · rw [if_pos h, h]; rfl
theorem open_null0 {p : PA} (h : EncOk p (auL 0 [])) (ho : Oct (encB1 p (auL 0 []))) (now : Int) : openOf (encB p (auL 0 [])) [] now = (0, (encL p (auL 0 []) : Int), 0) :=
  oo_null (enc_pkLen p _ h) (by simp) (enc_kind0 p) rfl (enc_whole p _ h (by show (0 : Int) ≠ 2; decide) ho)
theorem open_other {p : PA} {L : List AK} (h : EncOk p (auL 0 [])) (hL : 0 < L.length) (hck : checkOf L = (0, 0)) (now : Int) : openOf (encB p (auL 0 [])) L now = (0, 0, 25) := by
  have hk := check_kind hL (by rw [hck])
  exact oo_kind (enc_pkLen p _ h) (by rw [hck]; simp) (by rw [enc_kind0]; omega)
theorem sgF {p : PA} {L : List AK} {a : Nat} {k : AK} (now sq : Int) (hE : ∀ u : Au, u.ok → u.k ≤ 2 → Enc p u) (hck : checkOf L = (0, 0)) (hk : L[a]? = some k) (hid : 0 ≤ k.id ∧ k.id ≤ 255) (hb : Oct k.bs) (h0 : 0 ≤ sq) (h1 : sq ≤ 4294967295) :
    SgF p L k now sq (encL p (auL 0 [])) (sgB p k sq) := by
  have hm : k ∈ L := List.mem_of_getElem? hk
  have hl : 0 < L.length := List.length_pos_of_mem hm
  have hkd := check_kind hl (by rw [hck])
  have hko := (check_key hck hk).2
  have hkk : k.kind = 1 ∨ k.kind = 2 := by omega
  have ha := auS_ok (k := k) hid hb h0 h1
  have hak := auS_k (sq := sq) hkk
  have e := hE (auS k sq) ha (by rw [hak]; omega)
  have hg := encL_ge p (auS k sq)
  have hll := encB_len p (auS k sq)
  have hN : encL p (auL 0 []) = encL p (auS k sq) := encL_au p _ _
  have hT : (auS k sq).k ≠ 2 → tailS p k sq = [] := fun h => by unfold tailS; rw [if_neg (by omega)]
  have hTl : (tailS p k sq).length ≤ 16 := by
    unfold tailS
    split
    · rw [md_len]; exact Nat.le_refl _
    · simp
  have hTo : Oct (tailS p k sq) := by
    unfold tailS
    split
    · exact md_oct _
    · exact Oct.of_mem fun x hx => by simp at hx
  have hp : pkLen (sgB p k sq) = ((encL p (auS k sq) : Int), 0) := by
    unfold sgB
    rw [pkLen_app _ (by rw [enc_pkLen p _ e.e]), enc_pkLen p _ e.e]
  have hpk : pkKind (sgB p k sq) = k.kind := by
    unfold sgB
    rw [pkKind_app _ (by omega), enc_kind p _ ha.k, hak]
  refine ⟨e.oct.append hTo, by unfold sgB; rw [List.length_append]; omega, ?_, ?_, ?_, ?_, ?_⟩
  · exact oo_kind hp (by simp) (by rw [hpk]; show k.kind ≠ 0; omega)
  · intro ht
    rw [hN]
    have hC : ¬ (0 < L.length ∧ (checkOf L).1 ≠ 0) := by rw [hck]; simp
    rcases hkk with h1k | h2k
    · refine ⟨0, ?_, fun h => by omega⟩
      rw [oo_plain hp hC (by rw [hpk]; exact hko) (by omega) (by
        have e1 : sgB p k sq = encB p (auS k sq) := by unfold sgB; rw [hT (by rw [hak]; omega), List.append_nil]
        rw [e1]
        exact enc_whole p _ e.e (by rw [hak]; omega) e.o)]
      rw [if_pos]
      refine List.any_eq_true.2 ⟨k, hm, ?_⟩
      unfold pwB
      rw [ht, Bool.true_and, decide_eq_true_eq]
      have e1 : sgB p k sq = encB p (auL 1 (pw k.bs)) := by rw [sgB_one h1k, sign_enc]
      rw [e1, enc_data p _ _ (pw_length _)]
    · refine ⟨sq, ?_, fun _ => rfl⟩
      rw [oo_dig hp hC (by rw [hpk]; exact hko) (by omega)]
      have e1 : sgB p k sq = encB p (auL 2 (dt8 k.id sq)) ++ md (encB p (auL 2 (dt8 k.id sq)) ++ key16 k.bs) := by rw [sgB_two h2k, sign_encD]
      have e2 : auS k sq = auL 2 (dt8 k.id sq) := by unfold auS; rw [if_pos h2k]
      rw [e2] at hll hg ⊢
      have t0 : (encB p (auL 2 (dt8 k.id sq)) ++ md (encB p (auL 2 (dt8 k.id sq)) ++ key16 k.bs)).take (encL p (auL 2 (dt8 k.id sq))) = encB p (auL 2 (dt8 k.id sq)) := by
        rw [List.take_append_of_le_length (by omega), take_all hll]
      have t1 : (encB p (auL 2 (dt8 k.id sq)) ++ md (encB p (auL 2 (dt8 k.id sq)) ++ key16 k.bs)).drop (encL p (auL 2 (dt8 k.id sq))) = md (encB p (auL 2 (dt8 k.id sq)) ++ key16 k.bs) := by
        rw [← hll, List.drop_left]
      have g16 : (sgB p k sq).getD 16 0 = 0 := by rw [e1, getD_app _ (by omega), encB_form]; rfl
      have g17 : (sgB p k sq).getD 17 0 = 0 := by rw [e1, getD_app _ (by omega), encB_form]; rfl
      have g18 : (sgB p k sq).getD 18 0 = k.id := by rw [e1, getD_app _ (by omega), encB_form]; rfl
      have g19 : (sgB p k sq).getD 19 0 = 16 := by rw [e1, getD_app _ (by omega), encB_form]; rfl
      unfold digOf
      rw [g16, g17, g19, if_neg (by decide), if_neg (by rw [e1, List.length_append, md_len, hll]; simp), if_pos (List.any_eq_true.2 ⟨k, hm, by
        unfold dgB
        rw [g18, ht, e1, t0, t1]
        simp⟩), e1, seq_enc p _ _ _ h0 h1]
  · exact e.dec_app _ hT
  · unfold sgB
    rw [auAt_app _ (by omega), encB_au p _ ha.k, hak]
  · intro q hq
    unfold sgB at hq
    exact e.same_app _ hq
end Go.Proofs.Ytbkejlalbjomkaa
namespace Go.Proofs.Ytbkejlalbjomkaa
set_option linter.unusedVariables false
open Go.RowKit

def AbOk (w w' : World) (e : Ending) : Prop := e = .returned (.bool true) ∧ Below w.heap.size w w'
/-- The law's packet and its chain. -/
structure AbF (w W : World) (gp : Nat) (p : PA) (A : Option Addr) (n : Nat) (L : List AK) : Prop where
  bp : Blk W gp 33 p.C
  l : Keys W A n L
  rd : p.rd W
  b : Below w.heap.size w W
theorem AbF.later {w W W' : World} {gp : Nat} {p : PA} {A : Option Addr} {n : Nat} {L : List AK} (h : AbF w W gp p A n L) (hb : Below W.heap.size W W') : AbF w W' gp p A n L := ⟨h.bp.later hb, h.l.later hb, h.rd.later hb, below_then h.b hb⟩
theorem ab_new (w : World) (p : PA) (A : Option Addr) (n : Nat) (L : List AK) (hp : p.rd w) (hL : Keys w A n L) : AbF w (w.alloc (.cells p.C 33)) w.heap.size p A n L := by
  have hb := (Below.refl w.heap.size w).alloc (Nat.le_refl _) (.cells p.C 33)
  exact ⟨Blk.new _ _ _, hL.later hb, hp.later hb, hb⟩
theorem keys_none (w : World) : Keys w none 0 [] := ⟨⟨rfl, fun h => absurd h (Nat.lt_irrefl 0)⟩, rfl, fun k hk => by simp at hk⟩
/-- The chain that the program is given. -/
structure AbK (W : World) (A' : Option Addr) (n : Nat) (L L' : List AK) : Prop where
  k : Keys W A' n L'
  core : L'.map AK.core = L.map AK.core
theorem AbK.later {W W' : World} {A' : Option Addr} {n : Nat} {L L' : List AK} (h : AbK W A' n L L') (hb : Below W.heap.size W W') : AbK W' A' n L L' := ⟨h.k.later hb, h.core⟩
set_option maxRecDepth 100000 in
set_option maxHeartbeats 16000000 in
theorem aback_walk (p : PA) (A : Option Addr) (n c : Nat) (L : List AK) (now sq : Int) (w : World) (hp : p.rd w) (hf : p.fit) (hL : Keys w A n L) (hc : n ≤ c) (hcm : c ≤ 9223372036854775807) (hs : ∀ k ∈ L, k.n ≤ 140737488351232) (hsq : 0 ≤ sq ∧ sq ≤ 4294967295) :
    Calls Try.prog 7 #[p.v, .slice A n c, .int .i64 now, .int .u32 sq] w fun e w' => AbOk w w' e := by
  show Calls Try.prog 7 #[.agg #[.int .u8 p.typ, .int .u32 p.router, .int .u32 p.area, .int .u32 p.mask, .int .u16 p.ivl, .int .u8 p.hopts, .int .u8 p.pri, .int .u32 p.dead, .int .u32 p.dr, .int .u32 p.bdr, .slice p.NA p.nn p.nc, .int .u16 p.mtu, .int .u8 p.dopts, .int .u8 p.flags, .int .u32 p.seq, .slice p.DA p.dn p.dc, .slice p.KA p.kn p.kc, .slice p.SA p.sn p.sc, .slice p.HA p.hn p.hc], .slice A n c, .int .i64 now, .int .u32 sq] w _
  have HG0 : Hid (AbF w (w.alloc (.cells #[.int .u8 p.typ, .int .u32 p.router, .int .u32 p.area, .int .u32 p.mask, .int .u16 p.ivl, .int .u8 p.hopts, .int .u8 p.pri, .int .u32 p.dead, .int .u32 p.dr, .int .u32 p.bdr, .slice p.NA p.nn p.nc, .int .u16 p.mtu, .int .u8 p.dopts, .int .u8 p.flags, .int .u32 p.seq, .slice p.DA p.dn p.dc, .slice p.KA p.kn p.kc, .slice p.SA p.sn p.sc, .slice p.HA p.hn p.hc] 33)) w.heap.size p A n L) := Lib.hid (ab_new w p A n L hp hL)
  have HFt := Lib.hid hf
  have HS := Lib.hid hs
  have HSq := Lib.hid hsq
  clear hp hf hL hs hsq
  go_enter Try.func7, Try.ntmps7
  go_wp2_with fail
  generalize w.alloc (.cells #[.int .u8 p.typ, .int .u32 p.router, .int .u32 p.area, .int .u32 p.mask, .int .u16 p.ivl, .int .u8 p.hopts, .int .u8 p.pri, .int .u32 p.dead, .int .u32 p.dr, .int .u32 p.bdr, .slice p.NA p.nn p.nc, .int .u16 p.mtu, .int .u8 p.dopts, .int .u8 p.flags, .int .u32 p.seq, .slice p.DA p.dn p.dc, .slice p.KA p.kn p.kc, .slice p.SA p.sn p.sc, .slice p.HA p.hn p.hc] 33) = w1 at *
  obtain ⟨gp, hgp⟩ : ∃ g, w.heap.size = g := ⟨_, rfl⟩
  have HG : Hid (AbF w w1 gp p A n L) := by rw [← hgp]; exact HG0
  rw [hgp]
  clear HG0 hgp
  refine (heavy8_any none A 0 0 n c L w1 HG.out.l (by omega) HS.out (by omega)).mono ?_
  rintro e w' ⟨h, rfl, rfl, hh⟩
  have HH := Lib.hid hh
  clear hh HS
  cases h with
  | true =>
    go_wp2_with fail
    refine (lives8_any w1).mono ?_
    rintro e wl ⟨rfl, hbl⟩
    replace HG := Lib.hid (HG.out.later hbl)
    clear hbl
    go_wp2_with fail
    go_ret
    exact ⟨rfl, HG.out.b⟩
  | false =>
    have hn : n ≤ 131072 := (HH.out rfl).2.1
    have HN := Lib.hid (HH.out rfl).2.2
    clear HH
    go_wp2_with (refine wpL_take (by rfl) (exec_load_row rfl rfl HG.out.bp Try.underlying33 rfl info_pk) ?_)
    refine (sizePacket_any p w1 HG.out.rd HFt.out).mono ?_
    rintro e w2 ⟨N, rfl, hfew, hb2⟩
    replace HG := Lib.hid (HG.out.later hb2)
    have HFw := Lib.hid hfew
    clear hfew hb2
    by_cases hN : 32768 < N
    · have dN : decide ((32768 : Int) < (N : Int)) = true := decide_eq_true (by omega)
      go_wp2_with fail
      refine (lives8_any w2).mono ?_
      rintro e wl ⟨rfl, hbl⟩
      replace HG := Lib.hid (HG.out.later hbl)
      clear hbl
      go_wp2_with fail
      go_ret
      exact ⟨rfl, HG.out.b⟩
    have dN : decide ((32768 : Int) < (N : Int)) = false := decide_eq_false (by omega)
    have HFew := Lib.hid (HFw.out (by omega))
    clear HFw
    go_wp2_with fail
    clear dN hN
    refine (given_any A n c L w2 HG.out.l hn HN.out).mono ?_
    rintro e w3 ⟨v, L', rfl, hl', ho', hw', hb3⟩
    replace HG := Lib.hid (HG.out.later hb3)
    obtain ⟨A', c', rfl, hk', hc', hm'⟩ := keys_of_given HG.out.l HN.out hl' ho' hw'
    have HK : Hid (AbK w3 A' n L L') := Lib.hid ⟨hk', core_of hw' (by rw [hl', HG.out.l.len])⟩
    have HN' : Hid (∀ k ∈ L', k.n ≤ 131072) := Lib.hid (fun k hk => by
      obtain ⟨i, hi⟩ := List.getElem?_of_mem hk
      have hlt := (List.getElem?_eq_some_iff.1 hi).1
      obtain ⟨k0, hk0⟩ : ∃ k0, L[i]? = some k0 := ⟨_, List.getElem?_eq_getElem (by rw [HG.out.l.len]; omega)⟩
      rw [(hw' i k0 k hk0 hi).n]
      exact HN.out k0 (List.mem_of_getElem? hk0))
    clear ho' hw' hb3 hk' HN
    go_wp2_with fail
    refine (check_any A' n c' L' w3 HK.out.k hc' (by omega)).mono ?_
    obtain ⟨e1, he1⟩ : ∃ e1, (checkOf L').1 = e1 := ⟨_, rfl⟩
    obtain ⟨x1, hx1⟩ : ∃ x1, (checkOf L').2 = x1 := ⟨_, rfl⟩
    rintro e w4 ⟨rfl, hb4⟩
    rw [he1, hx1]
    have HE := Lib.hid he1
    replace HG := Lib.hid (HG.out.later hb4)
    replace HK := Lib.hid (HK.out.later hb4)
    clear he1 hx1 hb4
    go_wp2_with fail
    refine (choose_any A' n c' L' now w4 HK.out.k (by omega)).mono ?_
    obtain ⟨a0, ha0⟩ : ∃ a0, chooseOf L' now = a0 := ⟨_, rfl⟩
    rintro e w5 ⟨rfl, hb5⟩
    rw [ha0]
    have HA := Lib.hid ha0
    replace HG := Lib.hid (HG.out.later hb5)
    replace HK := Lib.hid (HK.out.later hb5)
    clear ha0 hb5
    go_wp2_with (refine wpList_load_row rfl 33 _ rfl gp rfl 33 #[.int .u8 p.typ, .int .u32 p.router, .int .u32 p.area, .int .u32 p.mask, .int .u16 p.ivl, .int .u8 p.hopts, .int .u8 p.pri, .int .u32 p.dead, .int .u32 p.dr, .int .u32 p.bdr, .slice p.NA p.nn p.nc, .int .u16 p.mtu, .int .u8 p.dopts, .int .u8 p.flags, .int .u32 p.seq, .slice p.DA p.dn p.dc, .slice p.KA p.kn p.kc, .slice p.SA p.sn p.sc, .slice p.HA p.hn p.hc] (0, 0) _ HG.out.bp Try.underlying33 rfl info_pk ?_)
    refine (copyPacket_any p w5 HG.out.rd HFew.out).mono ?_
    rintro e w6 ⟨q, rfl, hsame, hqy, hb6⟩
    have HQ := Lib.hid (And.intro (hqy.rd (hsame.rng HG.out.rd.ok.rng)) (hsame.few HFew.out))
    have HSm := Lib.hid hsame
    replace HG := Lib.hid (HG.out.later hb6)
    replace HK := Lib.hid (HK.out.later hb6)
    clear hsame hqy hb6 HFt
    go_wp2_with fail
    refine (encode_any w6 q (auL 0 []) HQ.out.1 HQ.out.2 zeroAu_ok).mono ?_
    rintro e w7 (⟨hok, u, rfl, ho, hb7⟩ | ⟨hno, k, hk0, _, rfl, hb7⟩)
    rotate_left
    · replace HG := Lib.hid (HG.out.later hb7)
      have hkb : (k != 0) = true := by simpa using hk0
      clear hb7 hno
      by_cases h1 : e1 = 0
      · have b1 : (e1 != 0) = false := by simpa using h1
        clear h1
        go_wp2_with fail
        refine (lives8_any w7).mono ?_
        rintro e wl ⟨rfl, hbl⟩
        replace HG := Lib.hid (HG.out.later hbl)
        clear hbl
        go_wp2_with fail
        go_ret
        exact ⟨rfl, HG.out.b⟩
      · have b1 : (e1 != 0) = true := by simpa using h1
        clear h1
        go_wp2_with fail
        refine (lives8_any w7).mono ?_
        rintro e wl ⟨rfl, hbl⟩
        replace HG := Lib.hid (HG.out.later hbl)
        clear hbl
        go_wp2_with fail
        go_ret
        exact ⟨rfl, HG.out.b⟩
    replace HG := Lib.hid (HG.out.later hb7)
    replace HK := Lib.hid (HK.out.later hb7)
    have HEn : Hid (∀ u : Au, u.ok → u.k ≤ 2 → Enc q u) := Lib.hid (fun u hu hk => Enc.of_rd (encOk_au hok u hk) HQ.out.1 HQ.out.2 hu)
    have hL0 := encL_ge q (auL 0 [])
    have hM := hok.len
    obtain ⟨gb, cap, rfl, hgb, hnc, hcm2, hrow⟩ := Row.of_own ho (by omega)
    unfold maxLen at hcm2
    have hbl : (encB q (auL 0 [])).length = encL q (auL 0 []) := encB_len q _
    have HRow := Lib.hid (hrow.u8reads hbl)
    have HE0 := Lib.hid (HEn.out _ zeroAu_ok (show (0 : Int) ≤ 2 from by decide))
    clear hok ho hb7 hgb hrow HQ
    obtain ⟨m, hm⟩ : ∃ m, encL q (auL 0 []) = m := ⟨_, rfl⟩
    rw [hm] at hL0 hM hnc hbl HRow ⊢
    have HM := Lib.hid hm
    clear hm
    by_cases h1 : e1 = 0
    rotate_left
    · have b1 : (e1 != 0) = true := by simpa using h1
      clear h1
      go_wp2_with fail
      refine (lives8_any w7).mono ?_
      rintro e wl ⟨rfl, hbl⟩
      replace HG := Lib.hid (HG.out.later hbl)
      clear hbl
      go_wp2_with fail
      go_ret
      exact ⟨rfl, HG.out.b⟩
    have b1 : (e1 != 0) = false := by simpa using h1
    have HCk : Hid (checkOf L' = (0, 0)) := Lib.hid (check_two (HE.out.trans h1))
    clear h1 HE
    obtain ⟨bs, hbs⟩ : ∃ bs, encB q (auL 0 []) = bs := ⟨_, rfl⟩
    rw [hbs] at hbl HRow
    have HBs := Lib.hid hbs
    have HBo : Hid (Oct bs) := Lib.hid (by rw [← hbs]; exact HE0.out.oct)
    have HBp : Hid (pkLen bs = ((m : Int), 0) ∧ pkKind bs = 0 ∧ wholeOf bs m = 0) := Lib.hid ⟨by rw [← hbs, enc_pkLen q _ HE0.out.e, HM.out], by rw [← hbs]; exact enc_kind0 q, by rw [← hbs, ← HM.out]; exact enc_whole q _ HE0.out.e (show (0 : Int) ≠ 2 from by decide) HE0.out.o⟩
    clear hbs
    rcases Nat.eq_zero_or_pos n with rfl | hn0
    · clear hn
      obtain rfl : L' = [] := List.eq_nil_of_length_eq_zero hl'
      go_wp2_with fail
      refine (copyBytes_row (some ⟨gb, 0, none⟩) m cap bs w7 HRow.out (by omega) (by omega)).mono ?_
      rintro e w8 ⟨gc, cc, rfl, hgc, hncc, hcmc, hrc, hbc⟩
      replace HG := Lib.hid (HG.out.later hbc)
      replace HK := Lib.hid (HK.out.later hbc)
      replace HRow := Lib.hid (HRow.out.later hbc)
      have HRc := Lib.hid (hrc.u8reads hbl)
      rw [hbl] at hncc ⊢
      clear hbc hrc hgc
      go_wp2_with fail
      refine (sign_nil (some ⟨gc, 0, none⟩) m cc bs A' c' now sq w8 HRc.out HBo.out hL0 (by omega) hncc hcmc HBp.out.1 HBp.out.2.1 HBp.out.2.2).mono ?_
      rintro e w9 ⟨gs, cs, rfl, hns, hcs, hrs, hb9⟩
      rw [hbl] at hns hrs ⊢
      replace HG := Lib.hid (HG.out.later hb9)
      replace HK := Lib.hid (HK.out.later hb9)
      replace HRow := Lib.hid (HRow.out.later hb9)
      have HRs := Lib.hid hrs
      clear hb9 hrs HRc hncc hcmc
      go_wp2_with fail
      refine (copyBytes_row (some ⟨gs, 0, none⟩) m cs bs w9 HRs.out (by omega) (by omega)).mono ?_
      rintro e w10 ⟨gd, cd, rfl, hgd, hncd, hcmd, hrd, hbd⟩
      replace HG := Lib.hid (HG.out.later hbd)
      replace HK := Lib.hid (HK.out.later hbd)
      replace HRow := Lib.hid (HRow.out.later hbd)
      replace HRs := Lib.hid (HRs.out.later hbd)
      have HRd := Lib.hid (hrd.u8reads hbl)
      rw [hbl] at hncd ⊢
      clear hbd hrd hgd
      go_wp2_with fail
      have hop := open_any (some ⟨gd, 0, none⟩) A' m cd 0 c' bs [] now w10 HRd.out HBo.out hncd hcmd (by omega) HK.out.k hc' hm' (fun k hk => by simp at hk)
      rw [show openOf bs [] now = (0, (m : Int), 0) by rw [← HBs.out, open_null0 HE0.out.e HE0.out.o, HM.out]] at hop
      refine hop.mono ?_
      clear hop
      rintro e w11 ⟨rfl, hb11⟩
      replace HG := Lib.hid (HG.out.later hb11)
      replace HRow := Lib.hid (HRow.out.later hb11)
      replace HRs := Lib.hid (HRs.out.later hb11)
      clear hb11 HRd hncd hcmd HK
      go_wp2_with fail
      refine (eqBytes_any (some ⟨gs, 0, none⟩) (some ⟨gb, 0, none⟩) m cs m cap bs bs w11 _ _ HRs.out HRow.out (by omega) (by omega)).mono ?_
      rintro e w12 ⟨rfl, kd2, rfl⟩
      rw [decide_eq_true rfl]
      replace HG := Lib.hid (HG.out.later (below_of_drewN _ w11 kd2))
      generalize w11.drewN kd2 = w12 at *
      have hmm : ((m : Int) == (m : Int)) = true := by simp
      go_wp2_with fail
      refine (lives8_any w12).mono ?_
      rintro e wl ⟨rfl, hbl⟩
      replace HG := Lib.hid (HG.out.later hbl)
      clear hbl
      go_wp2_with fail
      go_ret
      exact ⟨rfl, HG.out.b⟩
    have dn : decide ((0 : Int) < (n : Int)) = true := decide_eq_true (by omega)
    by_cases hneg : a0 < 0
    · have dA : decide (a0 < 0) = true := decide_eq_true hneg
      go_wp2_with fail
      refine (lives8_any w7).mono ?_
      rintro e wl ⟨rfl, hbl⟩
      replace HG := Lib.hid (HG.out.later hbl)
      clear hbl
      go_wp2_with fail
      go_ret
      exact ⟨rfl, HG.out.b⟩
    obtain ⟨a, rfl, k', hk'⟩ : ∃ a : Nat, a0 = (a : Int) ∧ ∃ k', L'[a]? = some k' := by
      rcases chooseTo_ok L' now L'.length with h | ⟨m0, o, h1, h2, h3⟩
      · have h4 := HA.out
        unfold chooseOf at h4
        omega
      · exact ⟨m0, HA.out.symm.trans h2, o, h3⟩
    have ham : a < n := by
      have := (List.getElem?_eq_some_iff.1 hk').1
      omega
    obtain ⟨⟨id, kd, KA, kn, kcc, sf, su, tf, tu, bk⟩, hk0, hcr⟩ : ∃ k0, L[a]? = some k0 ∧ k'.core = k0.core := by
      rcases core_get HK.out.core a with ⟨h1, _⟩ | ⟨k1, k2, h1, h2, h3⟩
      · rw [hk'] at h1; cases h1
      · rw [hk'] at h1
        injection h1 with h1
        subst h1
        exact ⟨k2, h2, h3⟩
    obtain ⟨ad, rfl⟩ : ∃ ad, A' = some ad := by obtain ⟨ad, e, _⟩ := HK.out.k.row.2 (by omega); exact ⟨ad, e⟩
    obtain ⟨ad0, rfl⟩ : ∃ ad0, A = some ad0 := by obtain ⟨ad0, e, _⟩ := HG.out.l.row.2 (by omega); exact ⟨ad0, e⟩
    have hkd : k'.kind = kd ∧ k'.tf = tf ∧ k'.tu = tu := by
      have h := hcr
      unfold AK.core at h
      simp only [Prod.mk.injEq] at h
      exact ⟨h.2.1, h.2.2.2.2.2.1, h.2.2.2.2.2.2⟩
    have hkk : k'.kind = 1 ∨ k'.kind = 2 := by
      have h1 := (check_key HCk.out hk').2
      have h2 := check_kind (L := L') (by omega) (by rw [HCk.out])
      omega
    have hko := HK.out.k.ok k' (List.mem_of_getElem? hk')
    have HSg : Hid (SgF q L' k' now sq m (sgB q k' sq)) := Lib.hid (by
      have h := sgF now sq HEn.out HCk.out hk' hko.id hko.oct HSq.out.1 HSq.out.2
      rwa [HM.out] at h)
    have dA : decide ((a : Int) < 0) = false := decide_eq_false (by omega)
    have dA2 : decide ((n : Int) ≤ (a : Int)) = false := decide_eq_false (by omega)
    clear hneg hko hcr
    go_wp2_with fail
    clear dn dA dA2 b1
    refine (copyBytes_row (some ⟨gb, 0, none⟩) m cap bs w7 HRow.out (by omega) (by omega)).mono ?_
    rintro e w8 ⟨gc, cc, rfl, hgc, hncc, hcmc, hrc, hbc⟩
    replace HG := Lib.hid (HG.out.later hbc)
    replace HK := Lib.hid (HK.out.later hbc)
    replace HRow := Lib.hid (HRow.out.later hbc)
    have HRc := Lib.hid (hrc.u8reads hbl)
    rw [hbl] at hncc ⊢
    clear hbc hrc hgc
    go_wp2_with fail
    have hsg : Calls Try.prog 26 #[.slice (some ⟨gc, 0, none⟩) m cc, .slice (some ad) n c', .int .i64 now, .int .u32 sq] w8 fun e w' => SgAt w8 w' (sgB q k' sq) e := by
      rcases hkk with h1 | h2
      · rw [sgB_one h1, HBs.out]
        refine (sign_plain (some ⟨gc, 0, none⟩) m cc bs ad n c' L' k' a now sq w8 HRc.out HBo.out hL0 (by omega) hncc hcmc HK.out.k hn0 hn hc' hm' HBp.out.1 HBp.out.2.1 HBp.out.2.2 (fun j hj => by rw [← HBs.out]; exact enc_zero q hj) (by rw [← HBs.out]; exact enc_15 q) HCk.out HA.out hk' h1).mono fun e w' h => sgAt_plain ?_ h
        rw [← HBs.out, sign_enc, encB_len, encL_au q _ (auL 0 []), HM.out]
      · rw [sgB_two h2, HBs.out]
        exact sign_dig (some ⟨gc, 0, none⟩) m cc bs ad n c' L' k' a now sq w8 HRc.out HBo.out hL0 (by omega) hncc hcmc HK.out.k hn0 hn hc' hm' HBp.out.1 HBp.out.2.1 HBp.out.2.2 (by rw [← HBs.out]; exact enc_15 q) HCk.out HA.out hk' h2 HSq.out (by have := HN'.out k' (List.mem_of_getElem? hk'); omega)
    have HEns : Hid (∀ Q, PIs (pkB (sgB q k' sq)) (tyAt (sgB q k' sq)) (be (((sgB q k' sq).drop 4).take 4)) (be (((sgB q k' sq).drop 8).take 4)) Q → EqPa Q p) := Lib.hid fun Q hQ => (HSg.out.same Q hQ).of_same HSm.out
    obtain ⟨ys, hys⟩ : ∃ ys, sgB q k' sq = ys := ⟨_, rfl⟩
    rw [hys] at hsg HSg HEns
    clear hys
    refine hsg.mono ?_
    clear hsg HRc hncc hcmc HA
    rintro e w9 ⟨gs, cs, rfl, hns, hcs, hrs, hb9⟩
    have hyl := HSg.out.len
    obtain ⟨N2, hN2⟩ : ∃ N2, ys.length = N2 := ⟨_, rfl⟩
    rw [hN2] at hns hrs hyl ⊢
    replace HG := Lib.hid (HG.out.later hb9)
    replace HK := Lib.hid (HK.out.later hb9)
    replace HRow := Lib.hid (HRow.out.later hb9)
    have HRs := Lib.hid hrs
    clear hb9 hrs
    go_wp2_with fail
    refine (copyBytes_row (some ⟨gs, 0, none⟩) N2 cs ys w9 HRs.out (by omega) (by omega)).mono ?_
    rintro e w10 ⟨gd, cd, rfl, hgd, hncd, hcmd, hrd, hbd⟩
    replace HG := Lib.hid (HG.out.later hbd)
    replace HK := Lib.hid (HK.out.later hbd)
    replace HRow := Lib.hid (HRow.out.later hbd)
    replace HRs := Lib.hid (HRs.out.later hbd)
    have HRd := Lib.hid (hrd.u8reads hN2)
    rw [hN2] at hncd ⊢
    clear hbd hrd hgd
    go_wp2_with fail
    have hop := open_any (some ⟨gd, 0, none⟩) (some ad) N2 cd n c' ys L' now w10 HRd.out HSg.out.oct hncd hcmd (by omega) HK.out.k hc' hm' (fun k hk => by have := HN'.out k hk; omega)
    obtain ⟨s3, n3, e3, hoo⟩ : ∃ s n e, openOf ys L' now = (s, n, e) := ⟨_, _, _, rfl⟩
    rw [hoo] at hop
    have HOo := Lib.hid hoo
    clear hoo
    refine hop.mono ?_
    clear hop
    rintro e w11 ⟨rfl, hb11⟩
    replace HG := Lib.hid (HG.out.later hb11)
    replace HK := Lib.hid (HK.out.later hb11)
    replace HRow := Lib.hid (HRow.out.later hb11)
    replace HRs := Lib.hid (HRs.out.later hb11)
    clear hb11 HRd hncd hcmd
    have hmz : ((n : Int) == 0) = false := by simp; omega
    have haI : (a : Int) < (n : Int) := by omega
    obtain ⟨q0, q1, q2, q3, q4, q5, q6⟩ := HG.out.l.cells_at (i := a) (k := (⟨id, kd, KA, kn, kcc, sf, su, tf, tu, bk⟩ : AK)) hk0
    simp only at q0 q1 q2 q3 q4 q5 q6
    go_wp2_with fail
    clear q0 q1 q2 q3 q4 q5 q6 hmz haI
    have HKb : Hid (Blk (w11.alloc (.cells #[.int .u8 id, .int .u16 kd, .slice KA kn kcc, .int .i64 sf, .int .i64 su, .int .i64 tf, .int .i64 tu] 59)) w11.heap.size 59 #[.int .u8 id, .int .u16 kd, .slice KA kn kcc, .int .i64 sf, .int .i64 su, .int .i64 tf, .int .i64 tu]) := Lib.hid (Blk.new _ _ _)
    have hb12 := (Below.refl w11.heap.size w11).alloc (Nat.le_refl _) (.cells #[.int .u8 id, .int .u16 kd, .slice KA kn kcc, .int .i64 sf, .int .i64 su, .int .i64 tf, .int .i64 tu] 59)
    replace HG := Lib.hid (HG.out.later hb12)
    replace HK := Lib.hid (HK.out.later hb12)
    replace HRow := Lib.hid (HRow.out.later hb12)
    replace HRs := Lib.hid (HRs.out.later hb12)
    clear hb12
    generalize w11.alloc (.cells #[.int .u8 id, .int .u16 kd, .slice KA kn kcc, .int .i64 sf, .int .i64 su, .int .i64 tf, .int .i64 tu] 59) = w12 at *
    generalize w11.heap.size = gk at *
    refine (copyBytes_row (some ⟨gs, 0, none⟩) N2 cs ys w12 HRs.out (by omega) (by omega)).mono ?_
    rintro e w13 ⟨ge, ce, rfl, hge, hnce, hmce, hrge, hbge⟩
    replace HG := Lib.hid (HG.out.later hbge)
    replace HK := Lib.hid (HK.out.later hbge)
    replace HRow := Lib.hid (HRow.out.later hbge)
    replace HRs := Lib.hid (HRs.out.later hbge)
    replace HKb := Lib.hid (HKb.out.later hbge)
    have HXge := Lib.hid (hrge.u8reads hN2)
    rw [hN2] at hnce ⊢
    clear hbge hrge hge
    go_wp2_with fail
    have hop := open_any (some ⟨ge, 0, none⟩) none N2 ce 0 0 ys [] now w13 HXge.out HSg.out.oct hnce hmce (by omega) (keys_none w13) (Nat.le_refl 0) (by decide) (fun k hk => by simp at hk)
    rw [HSg.out.nil] at hop
    refine hop.mono ?_
    clear hop
    rintro e w14 ⟨rfl, hb14⟩
    replace HG := Lib.hid (HG.out.later hb14)
    replace HK := Lib.hid (HK.out.later hb14)
    replace HRow := Lib.hid (HRow.out.later hb14)
    replace HRs := Lib.hid (HRs.out.later hb14)
    replace HKb := Lib.hid (HKb.out.later hb14)
    clear hb14 HXge hnce hmce
    go_wp2_with fail
    refine (copyBytes_row (some ⟨gb, 0, none⟩) m cap bs w14 HRow.out (by omega) (by omega)).mono ?_
    rintro e w15 ⟨gf, cf, rfl, hgf, hncf, hmcf, hrgf, hbgf⟩
    replace HG := Lib.hid (HG.out.later hbgf)
    replace HK := Lib.hid (HK.out.later hbgf)
    replace HRow := Lib.hid (HRow.out.later hbgf)
    replace HRs := Lib.hid (HRs.out.later hbgf)
    replace HKb := Lib.hid (HKb.out.later hbgf)
    have HXgf := Lib.hid (hrgf.u8reads hbl)
    rw [hbl] at hncf ⊢
    clear hbgf hrgf hgf
    go_wp2_with fail
    have hop := open_any (some ⟨gf, 0, none⟩) (some ad) m cf n c' bs L' now w15 HXgf.out HBo.out hncf hmcf (by omega) HK.out.k hc' hm' (fun k hk => by have := HN'.out k hk; omega)
    rw [show openOf bs L' now = (0, 0, 25) by rw [← HBs.out]; exact open_other HE0.out.e (by omega) HCk.out now] at hop
    refine hop.mono ?_
    clear hop
    rintro e w16 ⟨rfl, hb16⟩
    replace HG := Lib.hid (HG.out.later hb16)
    replace HK := Lib.hid (HK.out.later hb16)
    replace HRow := Lib.hid (HRow.out.later hb16)
    replace HRs := Lib.hid (HRs.out.later hb16)
    replace HKb := Lib.hid (HKb.out.later hb16)
    clear hb16 HXgf hncf hmcf HK HRow
    have j5 : w16.cell? ⟨gk, 5, none⟩ = some (.int .i64 tf) := HKb.out.cell 5
    have j6 : w16.cell? ⟨gk, 6, none⟩ = some (.int .i64 tu) := HKb.out.cell 6
    by_cases h5 : now < tf
    · have d5 : decide (now < tf) = true := decide_eq_true h5
      go_wp2_with fail
      refine (lives8_any w16).mono ?_
      rintro e wl ⟨rfl, hbl⟩
      replace HG := Lib.hid (HG.out.later hbl)
      clear hbl
      go_wp2_with fail
      go_ret
      exact ⟨rfl, HG.out.b⟩
    have d5 : decide (now < tf) = false := decide_eq_false h5
    by_cases h6 : tu < now
    · have d6 : decide (tu < now) = true := decide_eq_true h6
      go_wp2_with fail
      refine (lives8_any w16).mono ?_
      rintro e wl ⟨rfl, hbl⟩
      replace HG := Lib.hid (HG.out.later hbl)
      clear hbl
      go_wp2_with fail
      go_ret
      exact ⟨rfl, HG.out.b⟩
    have d6 : decide (tu < now) = false := decide_eq_false h6
    obtain ⟨s4, hs4, hsq4⟩ := HSg.out.own (by unfold tkB; rw [hkd.2.1, hkd.2.2]; simp; omega)
    rw [HOo.out] at hs4
    simp only [Prod.mk.injEq] at hs4
    obtain ⟨rfl, rfl, rfl⟩ := hs4
    have hmm : ((m : Int) != (m : Int)) = false := by simp
    have j1 : w16.cell? ⟨gk, 1, none⟩ = some (.int .u16 kd) := HKb.out.cell 1
    have hss : (sq != sq) = false := by simp
    rcases (by omega : kd = 1 ∨ kd = 2) with rfl | rfl
    · clear hsq4
      go_wp2_with fail
      clear j1 j5 j6 d5 d6 hmm hss h5 h6
      refine (pdecode_any (some ⟨gs, 0, none⟩) N2 cs ys w16 HRs.out HSg.out.oct hns hcs (by omega)).mono ?_
      rintro e w17 (⟨hno, _⟩ | ⟨hdk, q2, rfl, hy, hpis, hb17⟩)
      · exact absurd HSg.out.dec hno
      have hsm := HEns.out q2 hpis
      have hrd := hy.rd (hsm.rng HG.out.rd.ok.rng)
      have HQ2 := Lib.hid (And.intro hrd (hsm.few HG.out.rd hrd HFew.out))
      obtain ⟨au, hau⟩ : ∃ au, auAt ys = au := ⟨_, rfl⟩
      have hak : au.k = 1 := by rw [← hau, HSg.out.au, hkd.1]
      have hau1 : (au.k == (1 : Int)) = true := by rw [hak]; rfl
      rw [hau]
      replace HG := Lib.hid (HG.out.later hb17)
      replace HKb := Lib.hid (HKb.out.later hb17)
      have HX3 : Hid (Blk ((w17.alloc (.cells #[.int .u8 0, .int .u32 0, .int .u32 0, .int .u32 0, .int .u16 0, .int .u8 0, .int .u8 0, .int .u32 0, .int .u32 0, .int .u32 0, .slice none 0 0, .int .u16 0, .int .u8 0, .int .u8 0, .int .u32 0, .slice none 0 0, .slice none 0 0, .slice none 0 0, .slice none 0 0] 33)).alloc (.cells #[.int .u16 0, .int .u8 0, .int .u8 0, .int .u8 0, .int .u8 0, .int .u8 0, .int .u8 0, .int .u8 0, .int .u8 0] 44)) w17.heap.size 33 #[.int .u8 0, .int .u32 0, .int .u32 0, .int .u32 0, .int .u16 0, .int .u8 0, .int .u8 0, .int .u32 0, .int .u32 0, .int .u32 0, .slice none 0 0, .int .u16 0, .int .u8 0, .int .u8 0, .int .u32 0, .slice none 0 0, .slice none 0 0, .slice none 0 0, .slice none 0 0]) := Lib.hid ((Blk.new _ _ _).alloc _)
      have HX4 : Hid (Blk ((w17.alloc (.cells #[.int .u8 0, .int .u32 0, .int .u32 0, .int .u32 0, .int .u16 0, .int .u8 0, .int .u8 0, .int .u32 0, .int .u32 0, .int .u32 0, .slice none 0 0, .int .u16 0, .int .u8 0, .int .u8 0, .int .u32 0, .slice none 0 0, .slice none 0 0, .slice none 0 0, .slice none 0 0] 33)).alloc (.cells #[.int .u16 0, .int .u8 0, .int .u8 0, .int .u8 0, .int .u8 0, .int .u8 0, .int .u8 0, .int .u8 0, .int .u8 0] 44)) (w17.heap.size + 1) 44 #[.int .u16 0, .int .u8 0, .int .u8 0, .int .u8 0, .int .u8 0, .int .u8 0, .int .u8 0, .int .u8 0, .int .u8 0]) := Lib.hid (new_at _ _ _)
      have HX5 := Lib.hid ((HX4.out).setRow_far (cs' := q2.C) (by omega : w17.heap.size + 1 ≠ w17.heap.size))
      have HX6 : Hid (Blk ((((w17.alloc (.cells #[.int .u8 0, .int .u32 0, .int .u32 0, .int .u32 0, .int .u16 0, .int .u8 0, .int .u8 0, .int .u32 0, .int .u32 0, .int .u32 0, .slice none 0 0, .int .u16 0, .int .u8 0, .int .u8 0, .int .u32 0, .slice none 0 0, .slice none 0 0, .slice none 0 0, .slice none 0 0] 33)).alloc (.cells #[.int .u16 0, .int .u8 0, .int .u8 0, .int .u8 0, .int .u8 0, .int .u8 0, .int .u8 0, .int .u8 0, .int .u8 0] 44)).setRow w17.heap.size q2.C).setRow (w17.heap.size + 1) au.C) w17.heap.size 33 q2.C) := Lib.hid ((Blk.setRow HX3.out q2.C).setRow_far (by omega) _)
      have HX7 : Hid (Blk ((((w17.alloc (.cells #[.int .u8 0, .int .u32 0, .int .u32 0, .int .u32 0, .int .u16 0, .int .u8 0, .int .u8 0, .int .u32 0, .int .u32 0, .int .u32 0, .slice none 0 0, .int .u16 0, .int .u8 0, .int .u8 0, .int .u32 0, .slice none 0 0, .slice none 0 0, .slice none 0 0, .slice none 0 0] 33)).alloc (.cells #[.int .u16 0, .int .u8 0, .int .u8 0, .int .u8 0, .int .u8 0, .int .u8 0, .int .u8 0, .int .u8 0, .int .u8 0] 44)).setRow w17.heap.size q2.C).setRow (w17.heap.size + 1) au.C) (w17.heap.size + 1) 44 au.C) := Lib.hid (Blk.setRow HX5.out _)
      have HB7 : Hid (Below w17.heap.size w17 ((((w17.alloc (.cells #[.int .u8 0, .int .u32 0, .int .u32 0, .int .u32 0, .int .u16 0, .int .u8 0, .int .u8 0, .int .u32 0, .int .u32 0, .int .u32 0, .slice none 0 0, .int .u16 0, .int .u8 0, .int .u8 0, .int .u32 0, .slice none 0 0, .slice none 0 0, .slice none 0 0, .slice none 0 0] 33)).alloc (.cells #[.int .u16 0, .int .u8 0, .int .u8 0, .int .u8 0, .int .u8 0, .int .u8 0, .int .u8 0, .int .u8 0, .int .u8 0] 44)).setRow w17.heap.size q2.C).setRow (w17.heap.size + 1) au.C)) := Lib.hid (below_setRow (below_setRow (below_two _ _ _) (Nat.le_refl _) _) (by omega) _)
      have HG2 := Lib.hid (HG.out.later HB7.out)
      have HSm2 := Lib.hid hsm
      clear hdk hpis hsm hrd hy hb17 HRs HEns HOo hau
      go_wp2_with (first | (refine wpList_store_row rfl 33 _ _ rfl w17.heap.size q2.C rfl rfl 33 _ HX3.out info_pk rfl (one_PA q2) ?_) | (refine wpList_store_row rfl 44 _ _ rfl (w17.heap.size + 1) au.C rfl rfl 44 _ HX5.out info_au rfl (one_Au au) ?_) | (refine wpL_take (by rfl) (exec_load_row rfl rfl HX6.out Try.underlying33 rfl info_pk) ?_) | (refine wpL_take (by rfl) (exec_load_row rfl rfl HG2.out.bp Try.underlying33 rfl info_pk) ?_) | (refine wpList_load_row rfl 33 _ rfl w17.heap.size rfl 33 q2.C (0, 0) _ HX6.out Try.underlying33 rfl info_pk ?_) | (refine wpList_load_row rfl 33 _ rfl gp rfl 33 p.C (0, 0) _ HG2.out.bp Try.underlying33 rfl info_pk ?_))
      clear HX3 HX4 HX5
      replace HKb := Lib.hid (HKb.out.later HB7.out)
      replace HQ2 := Lib.hid (And.intro (HQ2.out.1.later HB7.out) HQ2.out.2)
      generalize ((((w17.alloc (.cells #[.int .u8 0, .int .u32 0, .int .u32 0, .int .u32 0, .int .u16 0, .int .u8 0, .int .u8 0, .int .u32 0, .int .u32 0, .int .u32 0, .slice none 0 0, .int .u16 0, .int .u8 0, .int .u8 0, .int .u32 0, .slice none 0 0, .slice none 0 0, .slice none 0 0, .slice none 0 0] 33)).alloc (.cells #[.int .u16 0, .int .u8 0, .int .u8 0, .int .u8 0, .int .u8 0, .int .u8 0, .int .u8 0, .int .u8 0, .int .u8 0] 44)).setRow w17.heap.size q2.C).setRow (w17.heap.size + 1) au.C) = w18 at *
      refine Calls.mono (eqPacket_any q2 p w18 HQ2.out.1 HG2.out.rd HQ2.out.2 HFew.out) ?_
      rintro e w19 ⟨b1, rfl, hbb1, hbd1⟩
      obtain rfl : b1 = true := hbb1.2 HSm2.out
      replace HG := Lib.hid (HG2.out.later hbd1)
      have c8 : w19.cell? ⟨w17.heap.size + 1, 0, none⟩ = some (.int .u16 au.k) := (HX7.out.later hbd1).cell 0
      have j1 : w19.cell? ⟨gk, 1, none⟩ = some (.int .u16 1) := (HKb.out.later hbd1).cell 1
      clear hbb1 hbd1
      go_wp2_with fail
      refine (lives8_any w19).mono ?_
      rintro e wl ⟨rfl, hbl⟩
      replace HG := Lib.hid (HG.out.later hbl)
      clear hbl
      go_wp2_with fail
      go_ret
      exact ⟨rfl, HG.out.b⟩
    · obtain rfl := hsq4 hkd.1
      go_wp2_with fail
      clear j1 j5 j6 d5 d6 hmm hss h5 h6
      refine (pdecode_any (some ⟨gs, 0, none⟩) N2 cs ys w16 HRs.out HSg.out.oct hns hcs (by omega)).mono ?_
      rintro e w17 (⟨hno, _⟩ | ⟨hdk, q2, rfl, hy, hpis, hb17⟩)
      · exact absurd HSg.out.dec hno
      have hsm := HEns.out q2 hpis
      have hrd := hy.rd (hsm.rng HG.out.rd.ok.rng)
      have HQ2 := Lib.hid (And.intro hrd (hsm.few HG.out.rd hrd HFew.out))
      obtain ⟨au, hau⟩ : ∃ au, auAt ys = au := ⟨_, rfl⟩
      have hak : au.k = 2 := by rw [← hau, HSg.out.au, hkd.1]
      have hau1 : (au.k == (2 : Int)) = true := by rw [hak]; rfl
      rw [hau]
      replace HG := Lib.hid (HG.out.later hb17)
      replace HKb := Lib.hid (HKb.out.later hb17)
      have HX3 : Hid (Blk ((w17.alloc (.cells #[.int .u8 0, .int .u32 0, .int .u32 0, .int .u32 0, .int .u16 0, .int .u8 0, .int .u8 0, .int .u32 0, .int .u32 0, .int .u32 0, .slice none 0 0, .int .u16 0, .int .u8 0, .int .u8 0, .int .u32 0, .slice none 0 0, .slice none 0 0, .slice none 0 0, .slice none 0 0] 33)).alloc (.cells #[.int .u16 0, .int .u8 0, .int .u8 0, .int .u8 0, .int .u8 0, .int .u8 0, .int .u8 0, .int .u8 0, .int .u8 0] 44)) w17.heap.size 33 #[.int .u8 0, .int .u32 0, .int .u32 0, .int .u32 0, .int .u16 0, .int .u8 0, .int .u8 0, .int .u32 0, .int .u32 0, .int .u32 0, .slice none 0 0, .int .u16 0, .int .u8 0, .int .u8 0, .int .u32 0, .slice none 0 0, .slice none 0 0, .slice none 0 0, .slice none 0 0]) := Lib.hid ((Blk.new _ _ _).alloc _)
      have HX4 : Hid (Blk ((w17.alloc (.cells #[.int .u8 0, .int .u32 0, .int .u32 0, .int .u32 0, .int .u16 0, .int .u8 0, .int .u8 0, .int .u32 0, .int .u32 0, .int .u32 0, .slice none 0 0, .int .u16 0, .int .u8 0, .int .u8 0, .int .u32 0, .slice none 0 0, .slice none 0 0, .slice none 0 0, .slice none 0 0] 33)).alloc (.cells #[.int .u16 0, .int .u8 0, .int .u8 0, .int .u8 0, .int .u8 0, .int .u8 0, .int .u8 0, .int .u8 0, .int .u8 0] 44)) (w17.heap.size + 1) 44 #[.int .u16 0, .int .u8 0, .int .u8 0, .int .u8 0, .int .u8 0, .int .u8 0, .int .u8 0, .int .u8 0, .int .u8 0]) := Lib.hid (new_at _ _ _)
      have HX5 := Lib.hid ((HX4.out).setRow_far (cs' := q2.C) (by omega : w17.heap.size + 1 ≠ w17.heap.size))
      have HX6 : Hid (Blk ((((w17.alloc (.cells #[.int .u8 0, .int .u32 0, .int .u32 0, .int .u32 0, .int .u16 0, .int .u8 0, .int .u8 0, .int .u32 0, .int .u32 0, .int .u32 0, .slice none 0 0, .int .u16 0, .int .u8 0, .int .u8 0, .int .u32 0, .slice none 0 0, .slice none 0 0, .slice none 0 0, .slice none 0 0] 33)).alloc (.cells #[.int .u16 0, .int .u8 0, .int .u8 0, .int .u8 0, .int .u8 0, .int .u8 0, .int .u8 0, .int .u8 0, .int .u8 0] 44)).setRow w17.heap.size q2.C).setRow (w17.heap.size + 1) au.C) w17.heap.size 33 q2.C) := Lib.hid ((Blk.setRow HX3.out q2.C).setRow_far (by omega) _)
      have HX7 : Hid (Blk ((((w17.alloc (.cells #[.int .u8 0, .int .u32 0, .int .u32 0, .int .u32 0, .int .u16 0, .int .u8 0, .int .u8 0, .int .u32 0, .int .u32 0, .int .u32 0, .slice none 0 0, .int .u16 0, .int .u8 0, .int .u8 0, .int .u32 0, .slice none 0 0, .slice none 0 0, .slice none 0 0, .slice none 0 0] 33)).alloc (.cells #[.int .u16 0, .int .u8 0, .int .u8 0, .int .u8 0, .int .u8 0, .int .u8 0, .int .u8 0, .int .u8 0, .int .u8 0] 44)).setRow w17.heap.size q2.C).setRow (w17.heap.size + 1) au.C) (w17.heap.size + 1) 44 au.C) := Lib.hid (Blk.setRow HX5.out _)
      have HB7 : Hid (Below w17.heap.size w17 ((((w17.alloc (.cells #[.int .u8 0, .int .u32 0, .int .u32 0, .int .u32 0, .int .u16 0, .int .u8 0, .int .u8 0, .int .u32 0, .int .u32 0, .int .u32 0, .slice none 0 0, .int .u16 0, .int .u8 0, .int .u8 0, .int .u32 0, .slice none 0 0, .slice none 0 0, .slice none 0 0, .slice none 0 0] 33)).alloc (.cells #[.int .u16 0, .int .u8 0, .int .u8 0, .int .u8 0, .int .u8 0, .int .u8 0, .int .u8 0, .int .u8 0, .int .u8 0] 44)).setRow w17.heap.size q2.C).setRow (w17.heap.size + 1) au.C)) := Lib.hid (below_setRow (below_setRow (below_two _ _ _) (Nat.le_refl _) _) (by omega) _)
      have HG2 := Lib.hid (HG.out.later HB7.out)
      have HSm2 := Lib.hid hsm
      clear hdk hpis hsm hrd hy hb17 HRs HEns HOo hau
      go_wp2_with (first | (refine wpList_store_row rfl 33 _ _ rfl w17.heap.size q2.C rfl rfl 33 _ HX3.out info_pk rfl (one_PA q2) ?_) | (refine wpList_store_row rfl 44 _ _ rfl (w17.heap.size + 1) au.C rfl rfl 44 _ HX5.out info_au rfl (one_Au au) ?_) | (refine wpL_take (by rfl) (exec_load_row rfl rfl HX6.out Try.underlying33 rfl info_pk) ?_) | (refine wpL_take (by rfl) (exec_load_row rfl rfl HG2.out.bp Try.underlying33 rfl info_pk) ?_) | (refine wpList_load_row rfl 33 _ rfl w17.heap.size rfl 33 q2.C (0, 0) _ HX6.out Try.underlying33 rfl info_pk ?_) | (refine wpList_load_row rfl 33 _ rfl gp rfl 33 p.C (0, 0) _ HG2.out.bp Try.underlying33 rfl info_pk ?_))
      clear HX3 HX4 HX5
      replace HKb := Lib.hid (HKb.out.later HB7.out)
      replace HQ2 := Lib.hid (And.intro (HQ2.out.1.later HB7.out) HQ2.out.2)
      generalize ((((w17.alloc (.cells #[.int .u8 0, .int .u32 0, .int .u32 0, .int .u32 0, .int .u16 0, .int .u8 0, .int .u8 0, .int .u32 0, .int .u32 0, .int .u32 0, .slice none 0 0, .int .u16 0, .int .u8 0, .int .u8 0, .int .u32 0, .slice none 0 0, .slice none 0 0, .slice none 0 0, .slice none 0 0] 33)).alloc (.cells #[.int .u16 0, .int .u8 0, .int .u8 0, .int .u8 0, .int .u8 0, .int .u8 0, .int .u8 0, .int .u8 0, .int .u8 0] 44)).setRow w17.heap.size q2.C).setRow (w17.heap.size + 1) au.C) = w18 at *
      refine Calls.mono (eqPacket_any q2 p w18 HQ2.out.1 HG2.out.rd HQ2.out.2 HFew.out) ?_
      rintro e w19 ⟨b1, rfl, hbb1, hbd1⟩
      obtain rfl : b1 = true := hbb1.2 HSm2.out
      replace HG := Lib.hid (HG2.out.later hbd1)
      have c8 : w19.cell? ⟨w17.heap.size + 1, 0, none⟩ = some (.int .u16 au.k) := (HX7.out.later hbd1).cell 0
      have j1 : w19.cell? ⟨gk, 1, none⟩ = some (.int .u16 2) := (HKb.out.later hbd1).cell 1
      clear hbb1 hbd1
      go_wp2_with fail
      refine (lives8_any w19).mono ?_
      rintro e wl ⟨rfl, hbl⟩
      replace HG := Lib.hid (HG.out.later hbl)
      clear hbl
      go_wp2_with fail
      go_ret
      exact ⟨rfl, HG.out.b⟩
end Go.Proofs.Ytbkejlalbjomkaa
