/-
  StoreAges' walk. Printed by gen_sto13.py.
  The reference's store in memory: a row of states with their times; find. Printed by gen_rst3.py.
  The reference's store: Len, When, Get. Printed by gen_rst4.py.
  Rows of states that can be read; EqStates. Printed by gen_eqs.py.
  The bag: all its lists, the rows in them each their own. Printed by gen_bgn.py.
  The reference's store: All. Printed by gen_rst5.py.
  The reference's store: Heads, Due. Printed by gen_rst6.py.
  The reference's store: Due. Printed by gen_rst7.py.
-/
import Derived.Test.YtpncbggjngamgaaCA07
import Derived.Test.YtpncbggjngamgaaCA06
import Derived.Test.YtpncbggjngamgaaCA05
import Derived.Test.YtpncbggjngamgaaCA01
import Derived.Laws.AppendOwn
import Derived.Test.YtpncbggjngamgaaCA02
namespace Go.Proofs.Ytpncbggjngamgaa
set_option linter.unusedVariables false
open Go.RowKit

/-- The cells of a head that stands at an address. -/
def HdAt (w : World) (ad : Addr) (h : Hd) : Prop :=
  w.cell? ad = some (.int .u16 h.age) ∧ w.cell? ⟨ad.block, ad.off + 1, none⟩ = some (.int .u8 h.opts) ∧ w.cell? ⟨ad.block, ad.off + 2, none⟩ = some (.int .u8 h.typ) ∧ w.cell? ⟨ad.block, ad.off + 3, none⟩ = some (.int .u32 h.id) ∧
    w.cell? ⟨ad.block, ad.off + 4, none⟩ = some (.int .u32 h.adv) ∧ w.cell? ⟨ad.block, ad.off + 5, none⟩ = some (.int .i32 h.seq) ∧ w.cell? ⟨ad.block, ad.off + 6, none⟩ = some (.int .u16 h.sum) ∧ w.cell? ⟨ad.block, ad.off + 7, none⟩ = some (.int .u16 h.len)
theorem HdAt.later {w w' : World} {ad : Addr} {h : Hd} (a : HdAt w ad h) (hb : Below w.heap.size w w') : HdAt w' ad h := by
  obtain ⟨h0, h1, h2, h3, h4, h5, h6, h7⟩ := a
  have H : ∀ (p : Addr) v, w.cell? p = some v → w'.cell? p = some v := fun p v e => (hb.cell (cell_lt e)).trans e
  exact ⟨H _ _ h0, H _ _ h1, H _ _ h2, H _ _ h3, H _ _ h4, H _ _ h5, H _ _ h6, H _ _ h7⟩
theorem hd_len (h : Hd) : h.cells.length = 8 := rfl
/-- A row of heads that can be read. -/
structure Hdl (w : World) (A : Option Addr) (n c : Nat) (hs : List Hd) : Prop where
  row : Reads w w.heap.size 8 A n (hs.flatMap Hd.cells)
  len : hs.length = n
  cap : n ≤ c ∧ c ≤ 9223372036854775807
theorem Hdl.later {w w' : World} {A : Option Addr} {n c : Nat} {hs : List Hd} (h : Hdl w A n c hs) (hb : Below w.heap.size w w') : Hdl w' A n c hs := ⟨h.row.later hb, h.len, h.cap⟩
theorem Hdl.at_ {w : World} {A : Option Addr} {n c i : Nat} {hs : List Hd} (h : Hdl w A n c hs) (hi : i < n) : ∃ ad k, A = some ad ∧ hs[i]? = some k ∧ HdAt w (ad.add (i * 8)) k := by
  obtain ⟨ad, s, e, hb, hs, h0, hj⟩ := rowG_at hd_len h.row h.len hi
  exact ⟨ad, s, e, hs, h0 _ rfl, hj 1 _ (by decide) rfl, hj 2 _ (by decide) rfl, hj 3 _ (by decide) rfl, hj 4 _ (by decide) rfl, hj 5 _ (by decide) rfl, hj 6 _ (by decide) rfl, hj 7 _ (by decide) rfl⟩
theorem rkey_hd (h : Hd) (w : World) : Calls Try.prog 16 #[.agg #[.int .u16 h.age, .int .u8 h.opts, .int .u8 h.typ, .int .u32 h.id, .int .u32 h.adv, .int .i32 h.seq, .int .u16 h.sum, .int .u16 h.len]] w fun e w' => e = .returned (keyV (h.typ, h.id, h.adv)) ∧ Below w.heap.size w w' := rkey_any h w
/-- What is known when a law's store is asked: its keys in order, which are old now. -/
structure AskS (w : World) (g bm : Nat) (f : Ky3 → Option OneE) (N : Nat) (ks : List Ky3) : Prop where
  q : StF w g bm 4096 f N
  ks : KsOf f N ks
  few : FewAt f
  n : N ≤ 1048576
theorem AskS.later {w w' : World} {g bm N : Nat} {f : Ky3 → Option OneE} {ks : List Ky3} (h : AskS w g bm f N ks) (hb : Below w.heap.size w w') : AskS w' g bm f N ks := ⟨h.q.later hb, h.ks, h.few, h.n⟩
theorem ask_due {w : World} {g bm N : Nat} {f : Ky3 → Option OneE} {ks : List Ky3} (h : AskS w g bm f N ks) {t : Int} (ht : 0 ≤ t ∧ t ≤ 9223372036854775807) {D : List Ky3} (hD : dueK f t ks = D) :
    Calls Try.prog 10 #[.pointer (some ⟨g, 0, none⟩), .int .i64 t] w fun e w' => ∃ A n c, e = .returned (.slice A n c) ∧ Kyl w' A n c D ∧ Below w.heap.size w w' := by
  refine (stdue_any _ t f N w (eachAt_of h.q ht h.n) h.n).mono ?_
  rintro e w' ⟨v, rfl, ks2, h2, hown, hb⟩
  rw [ks_unique h.ks h2, hD] at hown
  obtain ⟨A, c, rfl, hk⟩ := own_keys hown
  exact ⟨A, _, c, rfl, hk, hb⟩
theorem ask_heads {w : World} {g bm N : Nat} {f : Ky3 → Option OneE} {ks : List Ky3} (h : AskS w g bm f N ks) {t : Int} (ht : 0 ≤ t ∧ t ≤ 9223372036854775807) :
    Calls Try.prog 11 #[.pointer (some ⟨g, 0, none⟩), .int .i64 t] w fun e w' => ∃ A c, e = .returned (.slice A N c) ∧ Hdl w' A N c (ks.map (hAt f t)) ∧ Below w.heap.size w w' := by
  refine (stheads_any _ t f N w (eachAt_of h.q ht h.n) h.n).mono ?_
  rintro e w' ⟨v, ks2, rfl, h2, hown, hb⟩
  rw [ks_unique h.ks h2] at hown
  obtain ⟨A, c, rfl, h3, h4, h5⟩ := own_shape_n hown
  exact ⟨A, c, rfl, ⟨h5, by rw [List.length_map, h.ks.len], h3, h4⟩, hb⟩
theorem ask_next {w : World} {g bm N : Nat} {f : Ky3 → Option OneE} {ks : List Ky3} (h : AskS w g bm f N ks) {t : Int} (ht : 0 ≤ t ∧ t ≤ 9223372036854775807) {nx : Option Int} (hx : nextK f t ks = nx) :
    Calls Try.prog 12 #[.pointer (some ⟨g, 0, none⟩), .int .i64 t] w fun e w' => e = .returned (.tuple #[.int .i64 (nxB nx), .bool nx.isSome]) ∧ Below w.heap.size w w' := by
  refine (stnext_any _ t f N w (eachAt_of h.q ht h.n) h.n fun k x hk => ⟨g, bm, 4096, rfl, h.q⟩).mono ?_
  rintro e w' ⟨ks2, h2, rfl, hb⟩
  rw [ks_unique h.ks h2, hx]
  exact ⟨rfl, hb⟩
set_option maxRecDepth 100000 in
set_option maxHeartbeats 16000000 in
theorem ages_walk (A : Option Addr) (n c : Nat) (L : List OpS) (now : Int) (w : World) (hL : Opl w A n L) (hr : ∀ o ∈ L, o.s.n ≤ reachBytes) (hc : n ≤ c ∧ c ≤ 9223372036854775807) (hi : -9223372036854775808 ≤ now ∧ now ≤ 9223372036854775807) :
    Calls Try.prog 3 #[.slice A n c, .int .i64 now] w fun e w' => e = .returned (.bool true) ∧ Below w.heap.size w w' := by
  have HL := Lib.hid hL
  have HR := Lib.hid hr
  clear hL hr
  go_enter Try.func3, Try.ntmps3
  go_wp2_with fail
  refine (opHeavy_any A n c L w HL.out HR.out hc.1 hc.2).mono ?_
  rintro e w1 ⟨b, rfl, ⟨q, rfl⟩, hb⟩
  have HH := Lib.hid hb
  clear hb
  cases b with
  | true =>
    go_wp2_with fail
    refine (lives_any _).mono ?_
    rintro e wl ⟨rfl, hbl⟩
    have HBl := Lib.hid (below_then (below_of_drewN _ w q) hbl)
    clear hbl
    go_wp2_with fail
    go_ret
    exact ⟨rfl, HBl.out⟩
  | false =>
    have h120 := (HH.out rfl).1
    have HSm := Lib.hid (HH.out rfl).2
    clear HH
    by_cases hng : now < 0
    · have d0 : decide (now < 0) = true := decide_eq_true hng
      go_wp2_with fail
      refine (lives_any _).mono ?_
      rintro e wl ⟨rfl, hbl⟩
      have HBl := Lib.hid (below_then (below_of_drewN _ w q) hbl)
      clear hbl
      go_wp2_with fail
      go_ret
      exact ⟨rfl, HBl.out⟩
    · have d0 : decide (now < 0) = false := decide_eq_false hng
      by_cases hbg : 1099511627776 < now
      · have d1 : decide (1099511627776 < now) = true := decide_eq_true hbg
        go_wp2_with fail
        refine (lives_any _).mono ?_
        rintro e wl ⟨rfl, hbl⟩
        have HBl := Lib.hid (below_then (below_of_drewN _ w q) hbl)
        clear hbl
        go_wp2_with fail
        go_ret
        exact ⟨rfl, HBl.out⟩
      · have d1 : decide (1099511627776 < now) = false := decide_eq_false hbg
        go_wp2_with fail
        clear d0 d1
        go_loopw [5] (fun iv wr => ∃ i : Nat, iv = .int .i64 i ∧ i ≤ n ∧ Hid (∀ (m : Nat) o, m < i → L[m]? = some o → o.now ≤ 1099511627776) ∧ Hid (Below w.heap.size w wr)) (fun iv _ => n - (intOf iv).toNat)
        case atStart => exact ⟨0, rfl, Nat.zero_le _, Lib.hid fun m o h => by omega, Lib.hid (below_of_drewN _ w q)⟩
        case round =>
          obtain ⟨i, rfl, hin, hno, hbr⟩ := hrel
          by_cases hlt : i < n
          · have hltI : (i : Int) < n := by omega
            obtain ⟨ad, o, hA, hadl, hso, hok, hat⟩ := (HL.out.later hbr.out).at_ hlt
            subst hA
            have q1 := hat.2.1
            have HO := Lib.hid hso
            clear hat hok hso
            by_cases hob : 1099511627776 < o.now
            · have d2 : decide (1099511627776 < o.now) = true := decide_eq_true hob
              go_wp2_with fail
              refine (lives_any _).mono ?_
              rintro e wl ⟨rfl, hbl⟩
              have HBl := Lib.hid (below_then hbr.out hbl)
              clear hbl
              go_wp2_with fail
              go_ret
              exact ⟨rfl, HBl.out⟩
            · have d2 : decide (1099511627776 < o.now) = false := decide_eq_false hob
              go_wp2_with fail
              go_roundw
              case rel =>
                refine ⟨i + 1, by go_num, by omega, Lib.hid fun m o' hm e1 => ?_, hbr⟩
                by_cases hmi : m < i
                · exact hno.out m o' hmi e1
                · obtain rfl : m = i := by omega
                  rw [HO.out] at e1
                  injection e1 with e1
                  subst e1
                  omega
              case measure => simp [intOf]; omega
          · obtain rfl : i = n := by omega
            have HT : Hid (∀ o ∈ L, o.now ≤ 1099511627776) := Lib.hid fun o ho => by
              obtain ⟨m, hm⟩ := List.getElem?_of_mem ho
              refine hno.out m o ?_ hm
              have h1 := (List.getElem?_eq_some_iff.1 hm).1
              have h2 := HL.out.len
              omega
            clear hno
            generalize wr = w2 at *
            go_wp2_with fail
            refine (filled_any A i c L w2 (HL.out.later hbr.out) h120 HSm.out).mono ?_
            rintro e w3 ⟨g, bm, f, N, rfl, hq, hN, hcf, -, -, hb3⟩
            have HAs := Lib.hid (And.intro hq (And.intro (few_fill hq hcf (fun o ho => (HL.out.later hbr.out).ok o ho) HT.out) (show N ≤ 1048576 by have := HL.out.len; omega)))
            have HB3 := Lib.hid (below_then hbr.out hb3)
            have hnr : 0 ≤ now ∧ now ≤ 9223372036854775807 := ⟨by omega, by omega⟩
            clear hq hN hcf hb3 HT hbr HSm
            go_wp2_with fail
            refine (stdue_any _ now f N w3 (eachAt_of HAs.out.1 hnr HAs.out.2.2) HAs.out.2.2).mono ?_
            rintro e w4 ⟨v, rfl, ks, hks, hown, hb4⟩
            obtain ⟨A0, c0, rfl, hk0⟩ := own_keys hown
            have HA4 := Lib.hid (show AskS w4 g bm f N ks from ⟨HAs.out.1.later hb4, hks, HAs.out.2.1, HAs.out.2.2⟩)
            have HB4 := Lib.hid (below_then HB3.out hb4)
            obtain ⟨D0, hD0⟩ : ∃ D, dueK f now ks = D := ⟨_, rfl⟩
            obtain ⟨nx, hnx⟩ : ∃ nx, nextK f now ks = nx := ⟨_, rfl⟩
            rw [hD0] at hk0 ⊢
            have HD0 := Lib.hid hD0
            have HNX := Lib.hid hnx
            obtain ⟨n0, hn0⟩ : ∃ k, D0.length = k := ⟨_, rfl⟩
            rw [hn0] at hk0 ⊢
            have HK4 := Lib.hid hk0
            clear hD0 hnx hks hown hk0 hb4 HAs HB3 hn0
            go_wp2_with fail
            refine (ask_heads HA4.out hnr).mono ?_
            rintro e w5 ⟨A1, c1, rfl, hh, hb5⟩
            have HH5 := Lib.hid hh
            have HK5 := Lib.hid (HK4.out.later hb5)
            have HA5 := Lib.hid (HA4.out.later hb5)
            have HB5 := Lib.hid (below_then HB4.out hb5)
            clear hh hb5 HK4 HA4 HB4
            go_wp2_with fail
            refine (ask_next HA5.out hnr HNX.out).mono ?_
            rintro e w6 ⟨rfl, hb6⟩
            have HH6 := Lib.hid (HH5.out.later hb6)
            have HK6 := Lib.hid (HK5.out.later hb6)
            have HA6 := Lib.hid (HA5.out.later hb6)
            have HB6 := Lib.hid (below_then HB5.out hb6)
            clear hb6 HH5 HK5 HA5 HB5
            have hc0 := HK6.out.cap
            have hc1 := HH6.out.cap
            cases nx with
            | none =>
              go_wp2_with fail
              refine (stlen_any w6 g bm 4096 f N HA6.out.q).mono ?_
              rintro e w' ⟨rfl, rfl⟩
              have hw1 : IntKind.i64.wrap (now + 3600) = now + 3600 := by rw [IntKind.wrap_i64]; omega
              have hw2 : IntKind.i64.wrap (now + 3600 + 1) = now + 3600 + 1 := by rw [IntKind.wrap_i64]; omega
              go_wp2_with fail
              refine (ask_due HA6.out (t := now + 3600 + 1) (D := D0) (by omega) (by rw [agesK_none HA6.out.few HA6.out.ks HNX.out (by omega), HD0.out])).mono ?_
              rintro e w7 ⟨A2, n2, c2, rfl, hk2, hb7⟩
              have hn2 : n2 = n0 := by rw [← hk2.len, ← HK6.out.len]
              subst hn2
              have hc2 := hk2.cap
              have HB7 := Lib.hid (below_then HB6.out hb7)
              clear hk2 hb7
              go_wp2_with fail
              refine (lives_any _).mono ?_
              rintro e wl ⟨rfl, hbl⟩
              have HBl := Lib.hid (below_then HB7.out hbl)
              clear hbl
              go_wp2_with fail
              go_ret
              exact ⟨rfl, HBl.out⟩
            | some t =>
              obtain ⟨ht1, ht2, he1, he2, he3⟩ := agesK_some HA6.out.few HA6.out.ks HNX.out
              rw [HD0.out] at he1 he2 he3
              obtain ⟨D2, hD2⟩ : ∃ D, dueK f t ks = D := ⟨_, rfl⟩
              rw [hD2] at he2 he3
              have HD2 := Lib.hid (And.intro he1 (And.intro hD2 (And.intro he2 he3)))
              clear he1 he2 he3 hD2
              have d4 : decide (t ≤ now) = false := decide_eq_false (by omega)
              go_wp2_with fail
              refine (stlen_any w6 g bm 4096 f N HA6.out.q).mono ?_
              rintro e w' ⟨rfl, rfl⟩
              have hw1 : IntKind.i64.wrap (t - 1) = t - 1 := by rw [IntKind.wrap_i64]; omega
              go_wp2_with fail
              refine (ask_due HA6.out (t := t - 1) (D := D0) (by omega) HD2.out.1).mono ?_
              rintro e w7 ⟨A2, n2, c2, rfl, hk2, hb7⟩
              have HK27 := Lib.hid hk2
              have HH7 := Lib.hid (HH6.out.later hb7)
              have HK7 := Lib.hid (HK6.out.later hb7)
              have HA7 := Lib.hid (HA6.out.later hb7)
              have HB7 := Lib.hid (below_then HB6.out hb7)
              clear hk2 hb7 HH6 HK6 HA6 HB6 hw1 d4
              go_wp2_with fail
              refine (ask_due HA7.out (t := t) (by omega) HD2.out.2.1).mono ?_
              rintro e w8 ⟨A3, n3, c3, rfl, hk3, hb8⟩
              have HK38 := Lib.hid hk3
              have HK28 := Lib.hid (HK27.out.later hb8)
              have HH8 := Lib.hid (HH7.out.later hb8)
              have HK8 := Lib.hid (HK7.out.later hb8)
              have HA8 := Lib.hid HA7.out.ks
              have HF8 := Lib.hid HA7.out.few
              have HB8 := Lib.hid (below_then HB7.out hb8)
              clear hk3 hb8 HH7 HK7 HA7 HB7 HK27
              have hc3 := HK38.out.cap
              have hlt3 : n0 < n3 := by rw [← HK8.out.len, ← HK38.out.len]; exact HD2.out.2.2.1
              have HSub := Lib.hid HD2.out.2.2.2
              clear HD2
              have d5 : decide ((n3 : Int) ≤ (n0 : Int)) = false := decide_eq_false (by omega)
              have d6 : decide (n3 ≤ n0) = false := decide_eq_false (by omega)
              go_wp2_with fail
              refine (eqKeys_any A2 A0 n2 c2 n0 c0 D0 D0 w8 HK28.out HK8.out).mono ?_
              rintro e w9 ⟨rfl, hb9⟩
              rw [show decide (D0 = D0) = true from decide_eq_true rfl]
              have HK39 := Lib.hid (HK38.out.later hb9)
              have HH9 := Lib.hid (HH8.out.later hb9)
              have HK9 := Lib.hid (HK8.out.later hb9)
              have HB9 := Lib.hid (below_then HB8.out hb9)
              clear hb9 HK38 HK28 HH8 HK8 HB8
              go_wp2_with fail
              clear d5 d6
              clear HNX ht1 ht2 hc0 hc1 hc3 hnr
              have hc0 := HK9.out.cap
              have hc1 := HH9.out.cap
              have hc3 := HK39.out.cap
              go_loopw [14] (fun iv wr => ∃ j : Nat, iv = .int .i64 j ∧ j ≤ n0 ∧ Hid (Below w9.heap.size w9 wr)) (fun iv _ => n0 - (intOf iv).toNat)
              case atStart => exact ⟨0, rfl, Nat.zero_le _, Lib.hid (Below.refl _ _)⟩
              case round =>
                obtain ⟨j, rfl, hj, hbj⟩ := hrel
                generalize wr = wj at *
                by_cases hjn : j < n0
                · have hjI : (j : Int) < n0 := by omega
                  obtain ⟨ad, x, hA0, hxs, hxa⟩ := (HK9.out.later hbj.out).at_ hjn
                  subst hA0
                  have HX := Lib.hid (And.intro hxs hxa)
                  clear hxs hxa
                  go_wp2_with fail
                  go_loopw [15] (fun kv wr2 => ∃ k : Nat, kv = .int .i64 k ∧ k ≤ n3 ∧ Hid (∀ (m : Nat) y, m < k → D2[m]? = some y → y ≠ x) ∧ Hid (Below wj.heap.size wj wr2)) (fun kv _ => n3 - (intOf kv).toNat)
                  case atStart => exact ⟨0, rfl, Nat.zero_le _, Lib.hid fun m y h => by omega, Lib.hid (Below.refl _ _)⟩
                  case round =>
                    obtain ⟨k, rfl, hk, hno, hbk⟩ := hrel
                    by_cases hkn : k < n3
                    · have hkI : (k : Int) < n3 := by omega
                      obtain ⟨bd, y, hA3, hys, hya⟩ := (HK39.out.later (below_then hbj.out hbk.out)).at_ hkn
                      subst hA3
                      have HY := Lib.hid hys
                      have HS : Hid ((fun W : World => KyAt W (bd.add (k * 3)) y ∧ KyAt W (ad.add (j * 3)) x) wr.drew) := Lib.hid ⟨hya.later (Below.refl _ _).drew, HX.out.2.later hbk.out.drew⟩
                      have HB := Lib.hid hbk.out.drew
                      clear hys hya
                      have dk : (((k : Int)) == (n3 : Int)) = false := by rw [beq_eq_false_iff_ne]; omega
                      go_wp2_with fail
                      refine wp_region_s (fun W : World => KyAt W (bd.add (k * 3)) y ∧ KyAt W (ad.add (j * 3)) x) [(0, true), (1, true), (2, true), (3, true), (4, true), (5, true), (6, true), (7, true), (9, true), (10, true), (11, true), (8, true), (12, true), (13, true), (14, true)] (by kernel_rfl) (fun _ d _ _ _ h => by cases d <;> exact h) ?_
                      simp only [List.map_cons, List.map_nil, nthOp_zero, nthOp_succ]
                      generalize wr.drew = w10 at *
                      refine wpS_take HS (by kernel_rfl) (by intro W hW; clear hW; go_simp; try with_reducible rfl) ?_
                      refine wpS_take HS (by kernel_rfl) (by intro W hW; clear hW; go_simp; try with_reducible rfl) ?_
                      refine wpS_take HS (by kernel_rfl) (by intro W hW; clear hW; go_simp; try with_reducible rfl) ?_
                      refine wpS_take HS (by kernel_rfl) (by intro W hW; clear hW; go_simp; try with_reducible rfl) ?_
                      refine wpS_take HS (by kernel_rfl) (by intro W hW; clear hW; go_simp; try with_reducible rfl) ?_
                      refine wpS_take HS (by kernel_rfl) (by intro W hW; clear hW; go_simp; try with_reducible rfl) ?_
                      refine wpS_take HS (by kernel_rfl) (by intro W hW; clear hW; go_simp; try with_reducible rfl) ?_
                      refine wpS_take HS (by kernel_rfl) (by intro W hW; clear hW; go_simp; try with_reducible rfl) ?_
                      refine wpS_take HS (by kernel_rfl) (by intro W hW; clear hW; go_simp; try with_reducible rfl) ?_
                      refine wpS_take HS (by kernel_rfl) (by intro W hW; clear hW; go_simp; try with_reducible rfl) ?_
                      refine wpS_take HS (by kernel_rfl) (by intro W hW; clear hW; go_simp; try with_reducible rfl) ?_
                      go_simp
                      refine wpS_take HS (by kernel_rfl) (by intro W hW; obtain ⟨q0, q1, q2⟩ := hW.1; go_simp; try with_reducible rfl) ?_
                      refine wpS_take HS (by kernel_rfl) (by intro W hW; obtain ⟨q0, q1, q2⟩ := hW.2; go_simp; try with_reducible rfl) ?_
                      go_simp
                      refine wpS_take HS (by kernel_rfl) (fun W _ => exec_key_ne rfl y x rfl rfl W) ?_
                      by_cases hyx : y = x
                      · rw [decide_eq_true hyx]
                        clear hyx
                        refine wpS_take HS (by kernel_rfl) (by intro W hW; clear hW; go_simp; try with_reducible rfl) ?_
                        refine wpS_nil ?_
                        go_simp
                        go_wp2_with fail
                        go_roundw
                        case rel => exact ⟨j + 1, by go_num, by omega, Lib.hid (below_then hbj.out HB.out)⟩
                        case measure => simp [intOf]; omega
                      · rw [decide_eq_false hyx]
                        have HE := Lib.hid hyx
                        clear hyx
                        refine wpS_take HS (by kernel_rfl) (by intro W hW; clear hW; go_simp; try with_reducible rfl) ?_
                        refine wpS_nil ?_
                        go_simp
                        go_wp2_with fail
                        go_roundw
                        case rel =>
                          refine ⟨k + 1, by go_num, by omega, Lib.hid fun m z hm e1 => ?_, HB⟩
                          by_cases hmk : m < k
                          · exact hno.out m z hmk e1
                          · obtain rfl : m = k := by omega
                            rw [HY.out] at e1
                            injection e1 with e1
                            subst e1
                            exact HE.out
                        case measure => simp [intOf]; omega
                    · exfalso
                      obtain ⟨m, hm⟩ := List.getElem?_of_mem (HSub.out x (List.mem_of_getElem? HX.out.1))
                      have h1 := (List.getElem?_eq_some_iff.1 hm).1
                      have h2 := HK39.out.len
                      exact hno.out m x (by omega) hm rfl
                · obtain rfl : j = n0 := by omega
                  clear hjn
                  have HH10 := Lib.hid (HH9.out.later hbj.out)
                  have HB10 := Lib.hid (below_then HB9.out hbj.out)
                  clear HK39 HK9 HB9 HH9 hbj HSub
                  go_wp2_with fail
                  go_loopw [16] (fun iv wr => ∃ m : Nat, iv = .int .i64 m ∧ 1 ≤ m ∧ m ≤ N + 1 ∧ Hid (Below wj.heap.size wj wr)) (fun iv _ => N - (intOf iv).toNat)
                  case atStart => exact ⟨1, rfl, Nat.le_refl _, by omega, Lib.hid (Below.refl _ _)⟩
                  case round =>
                    obtain ⟨m, rfl, hm1, hmN, hbm⟩ := hrel
                    by_cases hmn : m < N
                    · have hmI : (m : Int) < N := by omega
                      obtain ⟨p, hp⟩ : ∃ p : Nat, m = p + 1 := ⟨m - 1, by omega⟩
                      have hpI : (m : Int) - 1 = (p : Int) := by omega
                      have hwp : IntKind.i64.wrap ((m : Int) - 1) = (p : Int) := by rw [IntKind.wrap_i64]; omega
                      have hpN : (p : Int) < N := by omega
                      have hwp2 : IntKind.i64.wrap (p : Int) = (p : Int) := by rw [IntKind.wrap_i64]; omega
                      obtain ⟨ad, x, hA, hxs, hxa⟩ := (HH10.out.later hbm.out).at_ (i := p) (by omega)
                      obtain ⟨bd, y, hA', hys, hya⟩ := (HH10.out.later hbm.out).at_ hmn
                      rw [hA] at hA'
                      injection hA' with hA'
                      subst hA' hA
                      have hlt2 : ltK (x.typ, x.id, x.adv) (y.typ, y.id, y.adv) = true := HA8.out.asc p m _ _ (by omega) (headsK HF8.out HA8.out now hxs) (headsK HF8.out HA8.out now hys)
                      have HC := Lib.hid (cmpK_lt_one hlt2)
                      have HS : Hid ((fun W : World => HdAt W (ad.add (p * 8)) x ∧ HdAt W (ad.add (m * 8)) y) wr.drew) := Lib.hid ⟨hxa.later (Below.refl _ _).drew, hya.later (Below.refl _ _).drew⟩
                      have HB := Lib.hid hbm.out.drew
                      clear hxs hys hxa hya hlt2 hp
                      go_wp2_with fail
                      refine wp_region_s (fun W : World => HdAt W (ad.add (p * 8)) x ∧ HdAt W (ad.add (m * 8)) y) [(0, true), (1, true), (2, true), (3, true), (6, true), (7, true), (8, true), (4, true), (9, true), (5, false), (10, false), (11, false), (12, true)] (by kernel_rfl) (fun _ d _ _ _ h => by cases d <;> exact h) ?_
                      simp only [List.map_cons, List.map_nil, nthOp_zero, nthOp_succ]
                      generalize wr.drew = w10 at *
                      refine wpS_take HS (by kernel_rfl) (by intro W hW; clear hW; go_simp; try with_reducible rfl) ?_
                      refine wpS_take HS (by kernel_rfl) (by intro W hW; clear hW; go_simp; try with_reducible rfl) ?_
                      refine wpS_take HS (by kernel_rfl) (by intro W hW; clear hW; go_simp; try with_reducible rfl) ?_
                      refine wpS_take HS (by kernel_rfl) (by intro W hW; clear hW; go_simp; try with_reducible rfl) ?_
                      refine wpS_take HS (by kernel_rfl) (by intro W hW; clear hW; go_simp; try with_reducible rfl) ?_
                      refine wpS_take HS (by kernel_rfl) (by intro W hW; clear hW; go_simp; try with_reducible rfl) ?_
                      refine wpS_take HS (by kernel_rfl) (by intro W hW; clear hW; go_simp; try with_reducible rfl) ?_
                      refine wpS_take HS (by kernel_rfl) (by intro W hW; obtain ⟨q0, q1, q2, q3, q4, q5, q6, q7⟩ := hW.1; go_simp; try with_reducible rfl) ?_
                      refine wpS_take HS (by kernel_rfl) (by intro W hW; obtain ⟨q0, q1, q2, q3, q4, q5, q6, q7⟩ := hW.2; go_simp; try with_reducible rfl) ?_
                      go_simp
                      refine wpS_do fun K hK => ?_
                      go_wp2_with fail
                      refine (rkey_hd x w10).mono ?_
                      rintro e w11 ⟨rfl, hb11⟩
                      have HS11 : Hid (HdAt w11 (ad.add (p * 8)) x ∧ HdAt w11 (ad.add (m * 8)) y) := Lib.hid ⟨HS.out.1.later hb11, HS.out.2.later hb11⟩
                      have HB11 := Lib.hid (below_then HB.out hb11)
                      clear hb11 HS HB
                      go_wp2_with fail
                      refine hK.out _ _ HS11.out ?_
                      clear hK K
                      refine wpS_do fun K hK => ?_
                      go_wp2_with fail
                      refine (rkey_hd y w11).mono ?_
                      rintro e w12 ⟨rfl, hb12⟩
                      have HS12 : Hid (HdAt w12 (ad.add (p * 8)) x ∧ HdAt w12 (ad.add (m * 8)) y) := Lib.hid ⟨HS11.out.1.later hb12, HS11.out.2.later hb12⟩
                      have HB12 := Lib.hid (below_then HB11.out hb12)
                      clear hb12 HS11 HB11
                      go_wp2_with fail
                      refine hK.out _ _ HS12.out ?_
                      clear hK K
                      refine wpS_do fun K hK => ?_
                      go_wp2_with fail
                      refine (keys_grow (x.typ, x.id, x.adv) (y.typ, y.id, y.adv) w12).mono ?_
                      rintro e w13 ⟨rfl, q', os, hw13⟩
                      rw [HC.out]
                      have hb13 : Below w12.heap.size w12 w13 := by rw [hw13]; exact below_grow w12 q' os
                      have HS13 : Hid (HdAt w13 (ad.add (p * 8)) x ∧ HdAt w13 (ad.add (m * 8)) y) := Lib.hid ⟨HS12.out.1.later hb13, HS12.out.2.later hb13⟩
                      have HB13 := Lib.hid (below_then HB12.out hb13)
                      clear hb13 HS12 HB12 hw13
                      go_wp2_with fail
                      refine hK.out _ _ HS13.out ?_
                      clear hK K
                      refine wpS_take HS13 (by kernel_rfl) (by intro W hW; clear hW; go_simp; try with_reducible rfl) ?_
                      refine wpS_nil ?_
                      go_simp
                      go_wp2_with fail
                      go_roundw
                      case rel => exact ⟨m + 1, by go_num, by omega, by omega, HB13⟩
                      case measure => simp [intOf]; omega
                    · have hmI : ¬ (m : Int) < N := by omega
                      go_wp2_with fail
                      refine (lives_any _).mono ?_
                      rintro e wl ⟨rfl, hbl⟩
                      have HBl := Lib.hid (below_then (below_then HB10.out hbm.out) hbl)
                      clear hbl
                      go_wp2_with fail
                      go_ret
                      exact ⟨rfl, HBl.out⟩
end Go.Proofs.Ytpncbggjngamgaa
namespace Go.Proofs.Ytpncbggjngamgaa
set_option linter.unusedVariables false
open Go.RowKit

def oneL (x : OneE) : List Value := [.int .u16 x.s.h.age, .int .u8 x.s.h.opts, .int .u8 x.s.h.typ, .int .u32 x.s.h.id, .int .u32 x.s.h.adv, .int .i32 x.s.h.seq, .int .u16 x.s.h.sum, .int .u16 x.s.h.len, .slice x.s.A x.s.n x.s.c, .int .i64 x.at_]
theorem oneL_len (x : OneE) : (oneL x).length = 10 := rfl
theorem oneL_one (x : OneE) : ∀ u ∈ oneL x, u.oneCell' = true := by intro u hu; simp [oneL] at hu; rcases hu with rfl | rfl | rfl | rfl | rfl | rfl | rfl | rfl | rfl | rfl <;> rfl
/-- The reference's store: its row, new since base. -/
structure RfS (base : Nat) (w : World) (g : Nat) (v : Value) (most : Int) (xs : List OneE) : Prop where
  blk : Blk w g 61 #[v, .int .i64 most]
  row : w.ownsRow base 114 10 v xs.length (xs.flatMap oneL)
  own : ∀ x ∈ xs, x.s.ok base w ∧ (0 ≤ x.at_ ∧ x.at_ ≤ 9223372036854775807)
theorem RfS.later {base : Nat} {w w' : World} {g : Nat} {v : Value} {most : Int} {xs : List OneE} (h : RfS base w g v most xs) (hb : Below w.heap.size w w') : RfS base w' g v most xs :=
  ⟨h.blk.later hb, own_kept h.row (Kept.of_new hb (fun _ => False)) (fun _ _ h => h), fun x hx => ⟨(h.own x hx).1.later hb, (h.own x hx).2⟩⟩
theorem RfS.good {base : Nat} {w : World} {g : Nat} {v : Value} {most : Int} {xs : List OneE} (h : RfS base w g v most xs) : ∀ x ∈ xs, x.s.rd w ∧ (0 ≤ x.at_ ∧ x.at_ ≤ 9223372036854775807) := fun x hx => ⟨(h.own x hx).1.rd, (h.own x hx).2⟩
/-- The cells of a state with its time that stands at an address. -/
def OneAt (w : World) (ad : Addr) (x : OneE) : Prop :=
  w.cell? ad = some (.int .u16 x.s.h.age) ∧ w.cell? ⟨ad.block, ad.off + 1, none⟩ = some (.int .u8 x.s.h.opts) ∧ w.cell? ⟨ad.block, ad.off + 2, none⟩ = some (.int .u8 x.s.h.typ) ∧ w.cell? ⟨ad.block, ad.off + 3, none⟩ = some (.int .u32 x.s.h.id) ∧ w.cell? ⟨ad.block, ad.off + 4, none⟩ = some (.int .u32 x.s.h.adv) ∧
    w.cell? ⟨ad.block, ad.off + 5, none⟩ = some (.int .i32 x.s.h.seq) ∧ w.cell? ⟨ad.block, ad.off + 6, none⟩ = some (.int .u16 x.s.h.sum) ∧ w.cell? ⟨ad.block, ad.off + 7, none⟩ = some (.int .u16 x.s.h.len) ∧ w.cell? ⟨ad.block, ad.off + 8, none⟩ = some (.slice x.s.A x.s.n x.s.c) ∧ w.cell? ⟨ad.block, ad.off + 9, none⟩ = some (.int .i64 x.at_)
theorem OneAt.later {w w' : World} {ad : Addr} {x : OneE} (h : OneAt w ad x) (hb : Below w.heap.size w w') : OneAt w' ad x := by
  obtain ⟨h0, h1, h2, h3, h4, h5, h6, h7, h8, h9⟩ := h
  have H : ∀ (p : Addr) v, w.cell? p = some v → w'.cell? p = some v := fun p v e => (hb.cell (cell_lt e)).trans e
  exact ⟨H _ _ h0, H _ _ h1, H _ _ h2, H _ _ h3, H _ _ h4, H _ _ h5, H _ _ h6, H _ _ h7, H _ _ h8, H _ _ h9⟩
theorem RfS.shape {base : Nat} {w : World} {g : Nat} {v : Value} {most : Int} {xs : List OneE} (h : RfS base w g v most xs) : ∃ A n c, v = .slice A n c ∧ xs.length = n ∧ n ≤ c ∧ c ≤ 9223372036854775807 := by
  obtain ⟨A, c, e, h1, h2, _⟩ := own_shape_n h.row
  exact ⟨A, _, c, e, rfl, h1, h2⟩
theorem RfS.at_ {base : Nat} {w : World} {g n c : Nat} {A : Option Addr} {most : Int} {xs : List OneE} (h : RfS base w g (.slice A n c) most xs) {i : Nat} (hi : i < n) (hl : xs.length = n) : ∃ ad x, A = some ad ∧ xs[i]? = some x ∧ OneAt w (ad.add (i * 10)) x := by
  obtain ⟨A', c', e, h1, h2, h3⟩ := own_shape_n h.row
  injection e with e1 e2 e3
  subst e1
  rw [hl] at h3
  obtain ⟨ad, s, e, hb, hs, h0, hj⟩ := rowG_at oneL_len h3 hl hi
  exact ⟨ad, s, e, hs, h0 _ rfl, hj 1 _ (by decide) rfl, hj 2 _ (by decide) rfl, hj 3 _ (by decide) rfl, hj 4 _ (by decide) rfl, hj 5 _ (by decide) rfl, hj 6 _ (by decide) rfl, hj 7 _ (by decide) rfl, hj 8 _ (by decide) rfl, hj 9 _ (by decide) rfl⟩
/-- Where a key is found: its place, or -1. -/
def FoundAt (xs : List OneE) (k : Ky3) (z : Int) : Prop := (∃ (i : Nat) (x : OneE), z = i ∧ xs[i]? = some x ∧ x.s.key = k ∧ ∀ j y, j < i → xs[j]? = some y → y.s.key ≠ k) ∨ (z = -1 ∧ ∀ x ∈ xs, x.s.key ≠ k)
set_option maxRecDepth 100000 in
set_option maxHeartbeats 4000000 in
theorem find11 (base : Nat) (w : World) (g : Nat) (v : Value) (most : Int) (xs : List OneE) (q : RfS base w g v most xs) (k : Ky3) :
    Calls Try.prog 70 #[.pointer (some ⟨g, 0, none⟩), keyV k] w fun e w' => ∃ z, e = .returned (.int .i64 z) ∧ FoundAt xs k z ∧ Below w.heap.size w w' := by
  obtain ⟨k1, k2, k3⟩ := k
  obtain ⟨A, n, c, rfl, hl, hc1, hc2⟩ := q.shape
  have hb1 : Below w.heap.size w (w.alloc (.cells #[.int .u8 k1, .int .u32 k2, .int .u32 k3] 45)) := (Below.refl _ _).alloc (Nat.le_refl _) _
  have HQ := Lib.hid (q.later hb1)
  have HK : Hid (Blk (w.alloc (.cells #[.int .u8 k1, .int .u32 k2, .int .u32 k3] 45)) w.heap.size 45 #[.int .u8 k1, .int .u32 k2, .int .u32 k3]) := Lib.hid (Blk.new _ _ _)
  have HB1 := Lib.hid hb1
  have HL := Lib.hid hl
  clear q hb1 hl
  go_enter Try.func70, Try.ntmps70
  go_wp2_with fail
  generalize w.alloc (.cells #[.int .u8 k1, .int .u32 k2, .int .u32 k3] 45) = w1 at *
  go_loopw [5] (fun iv wr => ∃ i : Nat, iv = .int .i64 i ∧ i ≤ n ∧ Hid (∀ j y, j < i → xs[j]? = some y → y.s.key ≠ (k1, k2, k3)) ∧ Hid (Below w1.heap.size w1 wr)) (fun iv _ => n - (intOf iv).toNat)
  case atStart => exact ⟨0, rfl, Nat.zero_le _, Lib.hid fun j y h => by omega, Lib.hid (Below.refl _ _)⟩
  case round =>
    obtain ⟨i, rfl, hi, hno, hb⟩ := hrel
    have HQr := Lib.hid (HQ.out.later hb.out)
    have g0 := HQr.out.blk.cell 0
    simp only [List.getElem?_toArray, List.getElem?_cons_zero, List.getElem?_cons_succ] at g0
    by_cases hlt : i < n
    · have hltI : (i : Int) < n := by omega
      obtain ⟨ad, x, hA, hxs, hxa⟩ := HQr.out.at_ hlt HL.out
      subst hA
      have HX := Lib.hid hxs
      have hbd : Below wr.heap.size wr wr.drew := (Below.refl _ _).drew
      have HS : Hid ((fun W : World => Blk W g 61 #[.slice (some ad) n c, .int .i64 most] ∧ OneAt W (ad.add (i * 10)) x ∧ Blk W w.heap.size 45 #[.int .u8 k1, .int .u32 k2, .int .u32 k3]) wr.drew) := Lib.hid ⟨HQr.out.blk.later hbd, hxa.later hbd, (HK.out.later hb.out).later hbd⟩
      have HB := Lib.hid hb.out.drew
      go_wp2_with fail
      clear hxs hxa hbd g0
      refine wp_region_s (fun W : World => Blk W g 61 #[.slice (some ad) n c, .int .i64 most] ∧ OneAt W (ad.add (i * 10)) x ∧ Blk W w.heap.size 45 #[.int .u8 k1, .int .u32 k2, .int .u32 k3]) [(0, true), (1, true), (2, true), (4, true), (3, true), (5, true), (6, true), (7, true), (8, true), (10, true), (9, false), (11, true)] (by kernel_rfl) (fun _ d _ _ _ h => by cases d <;> exact h) ?_
      simp only [List.map_cons, List.map_nil, nthOp_zero, nthOp_succ]
      generalize wr.drew = w3 at *
      refine wpS_take HS (by kernel_rfl) (by intro W hW; clear hW; go_simp; try with_reducible rfl) ?_
      refine wpS_take HS (by kernel_rfl) (by intro W hW; clear hW; go_simp; try with_reducible rfl) ?_
      refine wpS_take HS (by kernel_rfl) (by intro W hW; clear hW; go_simp; try with_reducible rfl) ?_
      refine wpS_take HS (by kernel_rfl) (by intro W hW; clear hW; go_simp; try with_reducible rfl) ?_
      refine wpS_take HS (by kernel_rfl) (by intro W hW; have b0 := hW.1.cell 0; simp only [List.getElem?_toArray, List.getElem?_cons_zero, List.getElem?_cons_succ] at b0; clear hW; go_simp; try with_reducible rfl) ?_
      refine wpS_take HS (by kernel_rfl) (by intro W hW; clear hW; go_simp; try with_reducible rfl) ?_
      refine wpS_take HS (by kernel_rfl) (by intro W hW; clear hW; go_simp; try with_reducible rfl) ?_
      refine wpS_take HS (by kernel_rfl) (by intro W hW; clear hW; go_simp; try with_reducible rfl) ?_
      refine wpS_take HS (by kernel_rfl) (by intro W hW; obtain ⟨q0, q1, q2, q3, q4, q5, q6, q7, q8, q9⟩ := hW.2.1; clear hW; go_simp; try with_reducible rfl) ?_
      refine wpS_take HS (by kernel_rfl) (by intro W hW; have b0 := hW.2.2.cell 0; have b1 := hW.2.2.cell 1; have b2 := hW.2.2.cell 2; simp only [List.getElem?_toArray, List.getElem?_cons_zero, List.getElem?_cons_succ] at b0 b1 b2; clear hW; go_simp; try with_reducible rfl) ?_
      go_simp
      refine wpS_do fun K hK => ?_
      go_wp2_with fail
      refine (rkey_hd x.s.h w3).mono ?_
      rintro e w4 ⟨rfl, hb4⟩
      have HS4 : Hid ((fun W : World => Blk W g 61 #[.slice (some ad) n c, .int .i64 most] ∧ OneAt W (ad.add (i * 10)) x ∧ Blk W w.heap.size 45 #[.int .u8 k1, .int .u32 k2, .int .u32 k3]) w4) := Lib.hid ⟨HS.out.1.later hb4, HS.out.2.1.later hb4, HS.out.2.2.later hb4⟩
      have HB4 := Lib.hid (below_then HB.out hb4)
      clear hb4 HS HB
      go_wp2_with fail
      refine hK.out _ _ HS4.out ?_
      clear hK K
      refine wpS_take HS4 (by kernel_rfl) (fun W _ => exec_key_eq rfl (x.s.h.typ, x.s.h.id, x.s.h.adv) (k1, k2, k3) rfl rfl W) ?_
      refine wpS_nil ?_
      by_cases hkk : (x.s.h.typ, x.s.h.id, x.s.h.adv) = (k1, k2, k3)
      · rw [decide_eq_true hkk]
        have HE := Lib.hid hkk
        clear hkk
        go_simp
        go_wp2_with fail
        go_ret
        exact ⟨_, rfl, .inl ⟨i, x, rfl, HX.out, HE.out, hno.out⟩, below_then HB1.out HB4.out⟩
      · rw [decide_eq_false hkk]
        have HE := Lib.hid hkk
        clear hkk
        go_simp
        go_wp2_with fail
        go_roundw
        case rel =>
          refine ⟨i + 1, by go_num, by omega, Lib.hid fun j y hj e1 => ?_, HB4⟩
          by_cases hji : j < i
          · exact hno.out j y hji e1
          · obtain rfl : j = i := by omega
            rw [HX.out] at e1
            injection e1 with e1
            subst e1
            exact HE.out
        case measure => simp [intOf]; omega
    · obtain rfl : i = n := by omega
      go_wp2_with fail
      go_ret
      refine ⟨_, rfl, .inr ⟨rfl, fun x hx => ?_⟩, below_then HB1.out hb.out⟩
      obtain ⟨j, hj⟩ := List.getElem?_of_mem hx
      exact hno.out j x (by have := (List.getElem?_eq_some_iff.1 hj).1; have := HL.out; omega) hj
end Go.Proofs.Ytpncbggjngamgaa
namespace Go.Proofs.Ytpncbggjngamgaa
set_option linter.unusedVariables false
open Go.RowKit

/-- The state of a key in a row. -/
def rowAt (xs : List OneE) (k : Ky3) : Option OneE := xs.find? fun x => decide (x.s.key = k)
theorem rowAt_of {xs : List OneE} {k : Ky3} {z : Int} (h : FoundAt xs k z) : (∃ (i : Nat) (x : OneE), z = i ∧ xs[i]? = some x ∧ rowAt xs k = some x) ∨ (z = -1 ∧ rowAt xs k = none) := by
  rcases h with ⟨i, x, e, hx, hk, hno⟩ | ⟨e, hno⟩
  · refine .inl ⟨i, x, e, hx, ?_⟩
    unfold rowAt
    rw [List.find?_eq_some_iff_getElem]
    have hi := (List.getElem?_eq_some_iff.1 hx).1
    have he := (List.getElem?_eq_some_iff.1 hx).2
    refine ⟨decide_eq_true hk, i, hi, he, fun j hj => ?_⟩
    have := hno j (xs[j]'(by omega)) hj (List.getElem?_eq_getElem _)
    simpa using this
  · refine .inr ⟨e, ?_⟩
    unfold rowAt
    rw [List.find?_eq_none]
    intro x hx
    simpa using hno x hx
theorem rlen11 (base : Nat) (w : World) (g : Nat) (v : Value) (most : Int) (xs : List OneE) (q : RfS base w g v most xs) :
    Calls Try.prog 53 #[.pointer (some ⟨g, 0, none⟩)] w fun e w' => e = .returned (.int .i64 (xs.length : Int)) ∧ w = w' := by
  obtain ⟨A, n, c, rfl, hl, hc1, hc2⟩ := q.shape
  have g0 := q.blk.cell 0
  simp only [List.getElem?_toArray, List.getElem?_cons_zero, List.getElem?_cons_succ] at g0
  have HL := Lib.hid hl
  clear q hl
  go_enter Try.func53, Try.ntmps53
  go_wp2
  go_ret
  exact ⟨by rw [HL.out]; rfl, rfl⟩
set_option maxRecDepth 100000 in
set_option maxHeartbeats 4000000 in
theorem when11 (base : Nat) (w : World) (g : Nat) (v : Value) (most : Int) (xs : List OneE) (q : RfS base w g v most xs) (k : Ky3) :
    Calls Try.prog 49 #[.pointer (some ⟨g, 0, none⟩), keyV k] w fun e w' => (∃ z b, e = .returned (.tuple #[.int .i64 z, .bool b]) ∧ ((∃ x, rowAt xs k = some x ∧ z = x.at_ ∧ b = true) ∨ (rowAt xs k = none ∧ z = 0 ∧ b = false))) ∧ Below w.heap.size w w' := by
  obtain ⟨k1, k2, k3⟩ := k
  obtain ⟨A, n, c, rfl, hl, hc1, hc2⟩ := q.shape
  have hb1 : Below w.heap.size w (w.alloc (.cells #[.int .u8 k1, .int .u32 k2, .int .u32 k3] 45)) := (Below.refl _ _).alloc (Nat.le_refl _) _
  have HQ := Lib.hid (q.later hb1)
  have hk : Blk (w.alloc (.cells #[.int .u8 k1, .int .u32 k2, .int .u32 k3] 45)) w.heap.size 45 #[.int .u8 k1, .int .u32 k2, .int .u32 k3] := Blk.new _ _ _
  have b0 := hk.cell 0; have b1 := hk.cell 1; have b2 := hk.cell 2
  simp only [List.getElem?_toArray, List.getElem?_cons_zero, List.getElem?_cons_succ] at b0 b1 b2
  have HB1 := Lib.hid hb1
  have HL := Lib.hid hl
  clear q hb1 hl hk
  go_enter Try.func49, Try.ntmps49
  go_wp2_with fail
  refine (find11 base _ g _ most xs HQ.out (k1, k2, k3)).mono ?_
  rintro e w2 ⟨z, rfl, hz, hb2⟩
  have HQ2 := Lib.hid (HQ.out.later hb2)
  have HB2 := Lib.hid (below_then HB1.out hb2)
  clear hb2 HQ HB1 b0 b1 b2
  have g0 := HQ2.out.blk.cell 0
  simp only [List.getElem?_toArray, List.getElem?_cons_zero, List.getElem?_cons_succ] at g0
  rcases rowAt_of hz with ⟨i, x, rfl, hx, hr⟩ | ⟨rfl, hr⟩
  · have hin : i < n := by have := (List.getElem?_eq_some_iff.1 hx).1; have := HL.out; omega
    have hinI : (i : Int) < n := by omega
    obtain ⟨ad, x', hA, hx', hxa⟩ := HQ2.out.at_ hin HL.out
    rw [hx] at hx'
    injection hx' with hx'
    subst hx' hA
    have q9 := hxa.2.2.2.2.2.2.2.2.2
    have HR := Lib.hid hr
    have di : decide ((i : Int) < 0) = false := decide_eq_false (by omega)
    clear hz hx hr hxa
    go_wp2_with fail
    go_ret2
    exact ⟨⟨_, _, rfl, .inl ⟨x, HR.out, rfl, rfl⟩⟩, HB2.out⟩
  · have HR := Lib.hid hr
    clear hz hr
    go_wp2_with fail
    go_ret2
    exact ⟨⟨_, _, rfl, .inr ⟨HR.out, rfl, rfl⟩⟩, HB2.out⟩
set_option maxRecDepth 100000 in
set_option maxHeartbeats 4000000 in
theorem get11 (base : Nat) (w : World) (g : Nat) (v : Value) (most : Int) (xs : List OneE) (q : RfS base w g v most xs) (k : Ky3) (now : Int) (hn : 0 ≤ now ∧ now ≤ 9223372036854775807) :
    Calls Try.prog 47 #[.pointer (some ⟨g, 0, none⟩), .int .i64 now, keyV k] w fun e w' => (∀ x, rowAt xs k = some x → GetAt w w' x now e) ∧ (rowAt xs k = none → e = .returned (.tuple #[zeroSt, .bool false]) ∧ Below w.heap.size w w') := by
  obtain ⟨k1, k2, k3⟩ := k
  obtain ⟨A, n, c, rfl, hl, hc1, hc2⟩ := q.shape
  have hb1 : Below w.heap.size w ((w.alloc (.cells #[.int .u8 k1, .int .u32 k2, .int .u32 k3] 45)).alloc (.cells #[.int .u16 0, .int .u8 0, .int .u8 0, .int .u32 0, .int .u32 0, .int .i32 0, .int .u16 0, .int .u16 0, .slice none 0 0] 31)) := below_two _ _ _
  have HQ := Lib.hid (q.later hb1)
  have hk : Blk ((w.alloc (.cells #[.int .u8 k1, .int .u32 k2, .int .u32 k3] 45)).alloc (.cells #[.int .u16 0, .int .u8 0, .int .u8 0, .int .u32 0, .int .u32 0, .int .i32 0, .int .u16 0, .int .u16 0, .slice none 0 0] 31)) w.heap.size 45 #[.int .u8 k1, .int .u32 k2, .int .u32 k3] := (Blk.new _ _ _).alloc _
  have HZ : Hid (Blk ((w.alloc (.cells #[.int .u8 k1, .int .u32 k2, .int .u32 k3] 45)).alloc (.cells #[.int .u16 0, .int .u8 0, .int .u8 0, .int .u32 0, .int .u32 0, .int .i32 0, .int .u16 0, .int .u16 0, .slice none 0 0] 31)) (w.heap.size + 1) 31 #[.int .u16 0, .int .u8 0, .int .u8 0, .int .u32 0, .int .u32 0, .int .i32 0, .int .u16 0, .int .u16 0, .slice none 0 0]) := new_at _ _ _
  have b0 := hk.cell 0; have b1 := hk.cell 1; have b2 := hk.cell 2
  simp only [List.getElem?_toArray, List.getElem?_cons_zero, List.getElem?_cons_succ] at b0 b1 b2
  have HB1 := Lib.hid hb1
  have HL := Lib.hid hl
  have dn : decide (now < 0) = false := decide_eq_false (by omega)
  clear q hb1 hl hk
  go_enter Try.func47, Try.ntmps47
  go_wp2_with fail
  refine (find11 base _ g _ most xs HQ.out (k1, k2, k3)).mono ?_
  rintro e w2 ⟨z, rfl, hz, hb2⟩
  have HQ2 := Lib.hid (HQ.out.later hb2)
  have HB2 := Lib.hid (below_then HB1.out hb2)
  have HZ2 := Lib.hid (HZ.out.later hb2)
  clear hb2 HQ HB1 HZ b0 b1 b2
  have g0 := HQ2.out.blk.cell 0
  simp only [List.getElem?_toArray, List.getElem?_cons_zero, List.getElem?_cons_succ] at g0
  rcases rowAt_of hz with ⟨i, x, rfl, hx, hr⟩ | ⟨rfl, hr⟩
  · have hin : i < n := by have := (List.getElem?_eq_some_iff.1 hx).1; have := HL.out; omega
    have hinI : (i : Int) < n := by omega
    obtain ⟨ad, x', hA, hx', hxa⟩ := HQ2.out.at_ hin HL.out
    rw [hx] at hx'
    injection hx' with hx'
    subst hx' hA
    have HR := Lib.hid hr
    have hgd := HQ2.out.good x (List.mem_of_getElem? hx)
    have HAt := Lib.hid (at11 x now w2 hgd.1 hgd.2 hn)
    have di : decide ((i : Int) < 0) = false := decide_eq_false (by omega)
    obtain ⟨q0, q1, q2, q3, q4, q5, q6, q7, q8, q9⟩ := hxa
    clear hz hx hr hgd
    go_wp2_with fail
    refine HAt.out.mono ?_
    rintro e w3 ⟨s', rfl, h1, h2, h3, h4, h5⟩
    have HT := Lib.hid (And.intro h1 (And.intro h2 (And.intro h3 (And.intro h4 h5))))
    have HZ3 := Lib.hid (HZ2.out.later h5)
    clear h1 h2 h3 h4 h5 HAt q0 q1 q2 q3 q4 q5 q6 q7 q8 q9 g0
    go_wp2_with (refine wpList_store_row rfl 31 _ _ rfl (w.heap.size + 1) #[.int .u16 s'.h.age, .int .u8 s'.h.opts, .int .u8 s'.h.typ, .int .u32 s'.h.id, .int .u32 s'.h.adv, .int .i32 s'.h.seq, .int .u16 s'.h.sum, .int .u16 s'.h.len, .slice s'.A s'.n s'.c] rfl rfl 31 _ HZ3.out info_state rfl (by simp [Value.oneCell']) ?_)
    refine bodyPost_ret (results_cell_row_tmp rfl _ _ (w.heap.size + 1) 31 #[.int .u16 s'.h.age, .int .u8 s'.h.opts, .int .u8 s'.h.typ, .int .u32 s'.h.id, .int .u32 s'.h.adv, .int .i32 s'.h.seq, .int .u16 s'.h.sum, .int .u16 s'.h.len, .slice s'.A s'.n s'.c] (0, 0) _ rfl (HZ3.out.setRow _) Try.underlying31 rfl info_state) rfl ?_
    refine ⟨fun y hy => ?_, fun hy => (by rw [HR.out] at hy; cases hy)⟩
    have hxe : y = x := by have := hy.symm.trans HR.out; injection this
    subst hxe
    have hsz := HB2.out.size
    refine ⟨s', rfl, HT.out.1, ?_, HT.out.2.2.1, HT.out.2.2.2.1, below_setRow (below_then HB2.out HT.out.2.2.2.2) (by omega) _⟩
    have h := HT.out.2.1.mono hsz
    exact ⟨h.head, own_row h.body HZ3.out (by decide) _, h.oct, h.len⟩
  · have HR := Lib.hid hr
    clear hz hr
    go_wp2_with (refine wpList_store_row rfl 31 _ _ rfl (w.heap.size + 1) #[.int .u16 0, .int .u8 0, .int .u8 0, .int .u32 0, .int .u32 0, .int .i32 0, .int .u16 0, .int .u16 0, .slice none 0 0] rfl rfl 31 _ HZ2.out info_state rfl (by simp [Value.oneCell']) ?_)
    refine bodyPost_ret (results_cell_row_tmp rfl _ _ (w.heap.size + 1) 31 #[.int .u16 0, .int .u8 0, .int .u8 0, .int .u32 0, .int .u32 0, .int .i32 0, .int .u16 0, .int .u16 0, .slice none 0 0] (0, 0) _ rfl (HZ2.out.setRow _) Try.underlying31 rfl info_state) rfl ?_
    exact ⟨fun x hx => (by rw [HR.out] at hx; cases hx), fun _ => ⟨rfl, below_setRow HB2.out (by omega) _⟩⟩
end Go.Proofs.Ytpncbggjngamgaa
namespace Go.Proofs.Ytpncbggjngamgaa
set_option linter.unusedVariables false
open Go.RowKit

theorem stL_len (s : SE) : (stL s).length = 9 := rfl
structure Sts (w : World) (A : Option Addr) (n c : Nat) (ss : List SE) : Prop where
  row : Reads w w.heap.size 9 A n (ss.flatMap stL)
  len : ss.length = n
  cap : n ≤ c ∧ c ≤ 9223372036854775807
  ok : ∀ s ∈ ss, s.rd w
theorem Sts.later {w w' : World} {A : Option Addr} {n c : Nat} {ss : List SE} (h : Sts w A n c ss) (hb : Below w.heap.size w w') : Sts w' A n c ss := ⟨h.row.later hb, h.len, h.cap, fun s hs => (h.ok s hs).later hb⟩
theorem reads_ne_map {w : World} {A : Option Addr} {n : Nat} {ss : List SE} {bm m : Nat} {F : Ky3 → Option Value} (h : Reads w w.heap.size 9 A n (ss.flatMap stL)) (hl : ss.length = n) (hm : MapF keyV w bm F m) : 0 < n → ∀ ad, A = some ad → ad.block ≠ bm := by
  intro h0 ad hA e
  obtain ⟨ad', s, hA', hb, hs, hc, _⟩ := rowG_at stL_len h hl h0
  rw [hA] at hA'
  injection hA' with hA'
  subst hA'
  have hc0 := hc _ rfl
  obtain ⟨es, cl, L, hmm⟩ := hm
  have hh := hmm.heap
  rw [Nat.zero_mul] at hc0
  unfold World.cell? at hc0
  have hblk : (ad.add 0).block = ad.block := block_of_add _ _
  rw [hblk, e, hh] at hc0
  cases hc0
theorem Sts.kept {w w' : World} {A : Option Addr} {n c : Nat} {ss : List SE} {bm m : Nat} {F : Ky3 → Option Value} (h : Sts w A n c ss) (hm : MapF keyV w bm F m) (k : Kept (fun i => i = bm) w w') : Sts w' A n c ss :=
  ⟨h.row.keptUp k (fun h0 ad e hi => reads_ne_map h.row h.len hm h0 ad e hi), h.len, h.cap, fun s hs => (h.ok s hs).kept2 k (fun h0 ad e hi => rd_ne_map (h.ok s hs) hm h0 ad e hi)⟩
theorem Sts.at_ {w : World} {A : Option Addr} {n c i : Nat} {ss : List SE} (h : Sts w A n c ss) (hi : i < n) : ∃ ad s, A = some ad ∧ ss[i]? = some s ∧ s.rd w ∧ StAt w (ad.add (i * 9)) s := by
  obtain ⟨ad, s, e, hb, hs, h0, hj⟩ := rowG_at stL_len h.row h.len hi
  exact ⟨ad, s, e, hs, h.ok s (List.mem_of_getElem? hs), h0 _ rfl, hj 1 _ (by decide) rfl, hj 2 _ (by decide) rfl, hj 3 _ (by decide) rfl, hj 4 _ (by decide) rfl, hj 5 _ (by decide) rfl, hj 6 _ (by decide) rfl, hj 7 _ (by decide) rfl, hj 8 _ (by decide) rfl⟩
theorem eqS_of {s t : SE} (h : s.h = t.h) (hb : s.B = t.B) : eqS s t = true := by
  unfold eqS
  rw [(eqHd_iff s.h t.h).2 h, decide_eq_true hb]
  rfl
theorem eqState_at (s t : SE) (w : World) (hs : s.rd w) (ht : t.rd w) (h : s.h = t.h) (hb : s.B = t.B) : Calls Try.prog 20 #[.agg #[.int .u16 s.h.age, .int .u8 s.h.opts, .int .u8 s.h.typ, .int .u32 s.h.id, .int .u32 s.h.adv, .int .i32 s.h.seq, .int .u16 s.h.sum, .int .u16 s.h.len, .slice s.A s.n s.c], .agg #[.int .u16 t.h.age, .int .u8 t.h.opts, .int .u8 t.h.typ, .int .u32 t.h.id, .int .u32 t.h.adv, .int .i32 t.h.seq, .int .u16 t.h.sum, .int .u16 t.h.len, .slice t.A t.n t.c]] w fun e w' => e = .returned (.bool true) ∧ Below w.heap.size w w' := by
  have h1 := eqState_any s t w hs ht
  rw [eqS_of h hb] at h1
  exact h1
set_option maxRecDepth 100000 in
set_option maxHeartbeats 4000000 in
theorem eqStates_any (A B : Option Addr) (n c m d : Nat) (ss ts : List SE) (w : World) (hx : Sts w A n c ss) (hy : Sts w B m d ts) (hh : ss.map SE.h = ts.map SE.h) (hB : ss.map SE.B = ts.map SE.B) :
    Calls Try.prog 18 #[.slice A n c, .slice B m d] w fun e w' => e = .returned (.bool true) ∧ Below w.heap.size w w' := by
  have hnm : n = m := by rw [← hx.len, ← hy.len, ← List.length_map (f := SE.h), hh, List.length_map]
  subst hnm
  have HX := Lib.hid hx
  have HY := Lib.hid hy
  have HE : Hid (∀ (i : Nat) (s t : SE), ss[i]? = some s → ts[i]? = some t → s.h = t.h ∧ s.B = t.B) := Lib.hid fun i s t h1 h2 => by
    have e1 := congrArg (fun l => l[i]?) hh
    have e2 := congrArg (fun l => l[i]?) hB
    simp only [List.getElem?_map, h1, h2, Option.map_some] at e1 e2
    injection e1 with e1
    injection e2 with e2
    exact ⟨e1, e2⟩
  have hc := hx.cap
  have hd := hy.cap
  clear hx hy hh hB
  go_enter Try.func18, Try.ntmps18
  go_wp2
  go_loopw [5] (fun iv wr => ∃ i : Nat, iv = .int .i64 i ∧ i ≤ n ∧ Hid (Below w.heap.size w wr)) (fun iv _ => n - (intOf iv).toNat)
  case atStart => exact ⟨0, rfl, Nat.zero_le _, Lib.hid (Below.refl _ _)⟩
  case round =>
    obtain ⟨i, rfl, hi, hb⟩ := hrel
    by_cases hlt : i < n
    · have hltI : (i : Int) < n := by omega
      obtain ⟨ad, x, hA, hxs, hxr, hxa⟩ := (HX.out.later hb.out).at_ hlt
      obtain ⟨bd, y, hB, hys, hyr, hya⟩ := (HY.out.later hb.out).at_ hlt
      subst hA hB
      have HK := Lib.hid (HE.out i x y hxs hys)
      have hbd : Below wr.heap.size wr wr.drew := (Below.refl _ _).drew
      have HS : Hid ((fun W : World => StAt W (ad.add (i * 9)) x ∧ StAt W (bd.add (i * 9)) y) wr.drew) := Lib.hid ⟨hxa.later hbd, hya.later hbd⟩
      have HR := Lib.hid (And.intro (hxr.later hbd) (hyr.later hbd))
      have HB := Lib.hid hb.out.drew
      clear hxs hys hxa hya hxr hyr hbd
      go_wp2_with fail
      refine wp_region_s (fun W : World => StAt W (ad.add (i * 9)) x ∧ StAt W (bd.add (i * 9)) y) [(0, true), (1, true), (2, true), (4, true), (5, true), (6, true), (3, true), (7, true), (8, false), (9, true)] (by kernel_rfl) (fun _ d _ _ _ h => by cases d <;> exact h) ?_
      simp only [List.map_cons, List.map_nil, nthOp_zero, nthOp_succ]
      generalize wr.drew = w3 at *
      refine wpS_take HS (by kernel_rfl) (by intro W hW; clear hW; go_simp; try with_reducible rfl) ?_
      refine wpS_take HS (by kernel_rfl) (by intro W hW; clear hW; go_simp; try with_reducible rfl) ?_
      refine wpS_take HS (by kernel_rfl) (by intro W hW; clear hW; go_simp; try with_reducible rfl) ?_
      refine wpS_take HS (by kernel_rfl) (by intro W hW; clear hW; go_simp; try with_reducible rfl) ?_
      refine wpS_take HS (by kernel_rfl) (by intro W hW; clear hW; go_simp; try with_reducible rfl) ?_
      refine wpS_take HS (by kernel_rfl) (by intro W hW; clear hW; go_simp; try with_reducible rfl) ?_
      go_simp
      refine wpS_take HS (by kernel_rfl) (by intro W hW; obtain ⟨q0, q1, q2, q3, q4, q5, q6, q7, q8⟩ := hW.1; go_simp; try with_reducible rfl) ?_
      refine wpS_take HS (by kernel_rfl) (by intro W hW; obtain ⟨q0, q1, q2, q3, q4, q5, q6, q7, q8⟩ := hW.2; go_simp; try with_reducible rfl) ?_
      go_simp
      refine wpS_do fun K hK => ?_
      go_wp2_with fail
      refine (eqState_at x y w3 HR.out.1 HR.out.2 HK.out.1 HK.out.2).mono ?_
      rintro e w4 ⟨rfl, hb4⟩
      have HS4 : Hid (StAt w4 (ad.add (i * 9)) x ∧ StAt w4 (bd.add (i * 9)) y) := Lib.hid ⟨HS.out.1.later hb4, HS.out.2.later hb4⟩
      have HB4 := Lib.hid (below_then HB.out hb4)
      clear hb4 HS HB
      go_wp2_with fail
      refine hK.out _ _ HS4.out ?_
      clear hK K
      refine wpS_take HS4 (by kernel_rfl) (by intro W hW; clear hW; go_simp; try with_reducible rfl) ?_
      refine wpS_nil ?_
      go_simp
      go_wp2_with fail
      go_roundw
      case rel => exact ⟨i + 1, by go_num, by omega, HB4⟩
      case measure => simp [intOf]; omega
    · obtain rfl : i = n := by omega
      go_wp2
      go_ret
      exact ⟨rfl, hb.out⟩
end Go.Proofs.Ytpncbggjngamgaa
namespace Go.Proofs.Ytpncbggjngamgaa
set_option linter.unusedVariables false
open Go.RowKit Go.ChangeShapes Go.WideShapes

/-- A slice. -/
structure Sl where
  A : Option Addr
  n : Nat
  c : Nat
@[reducible] def Sl.v (s : Sl) : Value := .slice s.A s.n s.c
def slv (L : List Sl) : List Value := L.map Sl.v
theorem slv_len (L : List Sl) : (slv L).length = L.length := by simp [slv]
theorem slv_get {L : List Sl} {k : Nat} {s : Sl} (h : L[k]? = some s) : (slv L)[k]? = some s.v := by simp [slv, h]
theorem slv_snoc (L : List Sl) (s : Sl) : slv (L ++ [s]) = slv L ++ [s.v] := by simp [slv]
/-- Rows of unlike elements have unlike blocks. -/
theorem own_ne {W : World} {b b' sz sz' n n' : Nat} {e e' : TypeId} {v v' : Value} {xs xs' : List Value} (h : W.ownsRow b e sz v n xs) (h' : W.ownsRow b' e' sz' v' n' xs') (hne : e ≠ e') : ∀ i, v.ownBlock = some i → v'.ownBlock ≠ some i := by
  intro i hi
  rcases h.2 with ⟨h0, _⟩ | ⟨g, cap, cur, hv, _, hg, _⟩
  · rw [h0] at hi; simp [Value.ownBlock] at hi
  · have : g = i := by rw [hv] at hi; simpa [Value.ownBlock] using hi
    subst this
    exact own_blk_ne h' (show Blk W g e cur from hg) hne.symm
theorem take_one {α : Type} {l : List α} {i : Nat} {x : α} (h : l[i]? = some x) : l.take (i + 1) = l.take i ++ [x] := by rw [List.take_add_one, h]; rfl
theorem own_setc {w : World} {base size n g : Nat} {e t : TypeId} {v : Value} {xs : List Value} {cs : Array Value} (h : w.ownsRow base e size v n xs) (hg : Blk w g t cs) (hne : e ≠ t) (i : Nat) (u : Value) : (w.setCell ⟨g, i, none⟩ u).ownsRow base e size v n xs :=
  own_setCell h hg hne u
/-- The slices' types, the elements' types, the elements' cells, kind by kind. -/
def bty : Nat → TypeId
  | 0 => 29
  | 1 => 174
  | 2 => 175
  | 3 => 176
  | 4 => 177
  | 5 => 178
  | 6 => 179
  | 7 => 38
  | 8 => 36
  | 9 => 180
  | 10 => 181
  | 11 => 182
  | 12 => 183
  | 13 => 184
  | 14 => 49
  | 15 => 185
  | 16 => 186
  | 17 => 187
  | _ => 188
def bel : Nat → TypeId
  | 0 => 5
  | 1 => 3
  | 2 => 4
  | 3 => 9
  | 4 => 2
  | 5 => 26
  | 6 => 191
  | 7 => 28
  | 8 => 45
  | 9 => 193
  | 10 => 195
  | 11 => 197
  | 12 => 199
  | 13 => 201
  | 14 => 31
  | 15 => 203
  | 16 => 207
  | 17 => 209
  | _ => 211
def bsz : Nat → Nat
  | 0 => 1
  | 1 => 1
  | 2 => 1
  | 3 => 1
  | 4 => 1
  | 5 => 1
  | 6 => 1
  | 7 => 8
  | 8 => 3
  | 9 => 4
  | 10 => 1
  | 11 => 1
  | 12 => 1
  | 13 => 1
  | 14 => 9
  | 15 => 1
  | 16 => 1
  | 17 => 1
  | _ => 1
theorem bel_ne : ∀ j k, j < 19 → k < 19 → j ≠ k → bel j ≠ bel k := by
  have h : ∀ j, j < 19 → ∀ k, k < 19 → j ≠ k → bel j ≠ bel k := by decide
  exact fun j k hj hk => h j hj k hk
theorem bty_ne : ∀ j k, j < 19 → k < 19 → j ≠ k → bty j ≠ bty k := by
  have h : ∀ j, j < 19 → ∀ k, k < 19 → j ≠ k → bty j ≠ bty k := by decide
  exact fun j k hj hk => h j hj k hk
theorem bel_bty : ∀ j k, j < 19 → k < 19 → bel j ≠ bty k := by
  have h : ∀ j, j < 19 → ∀ k, k < 19 → bel j ≠ bty k := by decide
  exact fun j k hj hk => h j hj k hk
theorem bel_bag : ∀ j, j < 19 → bel j ≠ 83 := by decide
theorem bty_bag : ∀ j, j < 19 → bty j ≠ 83 := by decide
def updN {α : Type} (G : Nat → α) (j : Nat) (x : α) : Nat → α := fun i => if i = j then x else G i
theorem updN_self {α : Type} (G : Nat → α) (j : Nat) (x : α) : updN G j x j = x := if_pos rfl
theorem updN_ne {α : Type} (G : Nat → α) {i j : Nat} (x : α) (h : i ≠ j) : updN G j x i = G i := if_neg h
/-- The bag at g: its lists, each a row of its own; in each the rows that were gathered, each its own. -/
structure BagN (W : World) (base g : Nat) (G : Nat → Sl) (L : Nat → List Sl) : Prop where
  blk : ∃ C : Array Value, Blk W g 83 C ∧ C.size = 19 ∧ ∀ j, j < 19 → C[j]? = some (G j).v
  row : ∀ j, j < 19 → W.ownsRow base (bty j) 1 (G j).v (G j).n (slv (L j))
  few : ∀ j, j < 19 → (G j).n ≤ 300
  has : ∀ j, j < 19 → ∀ s ∈ L j, ∃ xs, W.ownsRow base (bel j) (bsz j) s.v s.n xs
  sep : ∀ j, j < 19 → ∀ (i k : Nat) (s t : Sl) (b : Nat), (L j)[i]? = some s → (L j)[k]? = some t → i ≠ k → s.v.ownBlock = some b → t.v.ownBlock ≠ some b
  fewN : ∀ j, j < 19 → ∀ s ∈ L j, s.n ≤ 1099511627776
section
variable {W W' : World} {base g : Nat} {G : Nat → Sl} {L : Nat → List Sl}
theorem BagN.cell (h : BagN W base g G L) {j : Nat} (hj : j < 19) : W.cell? ⟨g, j, none⟩ = some (G j).v ∧ W.frozen? ⟨g, j, none⟩ = false := by
  obtain ⟨C, hC, _, hc⟩ := h.blk
  exact ⟨by rw [hC.cell]; exact hc j hj, hC.frozen j⟩
theorem BagN.lt (h : BagN W base g G L) : g < W.heap.size := by obtain ⟨C, hC, _⟩ := h.blk; exact hC.lt
theorem BagN.len (h : BagN W base g G L) {j : Nat} (hj : j < 19) : (L j).length = (G j).n := by have := (h.row j hj).1; rw [slv_len] at this; omega
/-- What the bag writes when a list is added: its own block and its lists' blocks. -/
def BagF (g : Nat) (G : Nat → Sl) (b : Nat) : Prop := b = g ∨ ∃ j, j < 19 ∧ (G j).v.ownBlock = some b
theorem BagN.kept {R : Nat → Prop} (h : BagN W base g G L) (k : Kept R W W') (h0 : ¬ R g) (h1 : ∀ j, j < 19 → ∀ b, (G j).v.ownBlock = some b → ¬ R b) (h2 : ∀ j, j < 19 → ∀ s ∈ L j, ∀ b, s.v.ownBlock = some b → ¬ R b) : BagN W' base g G L := by
  obtain ⟨C, hC, hs, hc⟩ := h.blk
  exact ⟨⟨C, hC.kept k h0, hs, hc⟩, fun j hj => own_kept (h.row j hj) k (h1 j hj), h.few, fun j hj s hsL => (h.has j hj s hsL).imp fun xs hx => own_kept hx k (h2 j hj s hsL), h.sep, h.fewN⟩
theorem BagN.later (h : BagN W base g G L) (hb : Below W.heap.size W W') : BagN W' base g G L := h.kept (Kept.of_new hb (fun _ => False)) (fun h => h) (fun _ _ _ _ h => h) (fun _ _ _ _ _ _ h => h)
theorem BagN.lim (h : BagN W base g G L) {b : Nat} (hb : BagF g G b) : b < W.heap.size := by
  rcases hb with rfl | ⟨j, hj, hb⟩
  · exact h.lt
  · exact (own_ge (h.row j hj) hb).2
/-- One list more. -/
theorem BagN.add {w1 w2 : World} (h : BagN w1 base g G L) {j : Nat} (hj : j < 19) (hn : (G j).n < 300) {l s2 : Sl} {xs : List Value} (hl : w1.ownsRow base (bel j) (bsz j) l.v l.n xs) (hlf : l.n ≤ 1099511627776)
    (hsep : ∀ s ∈ L j, ∀ b, s.v.ownBlock = some b → l.v.ownBlock ≠ some b)
    (ho : w2.ownsRow base (bty j) 1 s2.v ((G j).n + 1) (slv (L j) ++ [l.v])) (hs2 : s2.n = (G j).n + 1) (hg : w1.grownBy w2 (G j).v.ownBlock) (hbl : s2.v.ownBlock = (G j).v.ownBlock ∨ s2.v.ownBlock = some w1.heap.size) :
    BagN (w2.setCell ⟨g, j, none⟩ s2.v) base g (updN G j s2) (updN L j (L j ++ [l])) ∧ Kept (BagF g G) w1 (w2.setCell ⟨g, j, none⟩ s2.v) := by
  obtain ⟨C, hC, hCs, hCc⟩ := h.blk
  have hrow := h.row j hj
  have hne : some g ≠ (G j).v.ownBlock := fun e => own_blk_ne hrow hC (bty_bag j hj) e.symm
  have hC2 : Blk w2 g 83 C := hC.grown hg hne
  have kk : Kept (fun b => (G j).v.ownBlock = some b) w1 w2 := Kept.of_grown hg
  have own2 : ∀ {b' sz n : Nat} {e : TypeId} {v : Value} {ys : List Value}, w1.ownsRow b' e sz v n ys → e ≠ bty j → e ≠ 83 → (w2.setCell ⟨g, j, none⟩ s2.v).ownsRow b' e sz v n ys := fun hr h1 h2 =>
    own_setc (own_kept hr kk (fun i hi hR => own_ne hr hrow h1 i hi hR)) hC2 h2 j _
  refine ⟨⟨⟨_, hC2.set_ j s2.v, by rw [Array.size_setIfInBounds, hCs], fun i hi => ?_⟩, fun i hi => ?_, fun i hi => ?_, fun i hi s hs => ?_, fun i hi a k s t b hs ht hak hb => ?_, fun i hi s hs => ?_⟩, ?_⟩
  · by_cases e : i = j
    · subst e
      rw [updN_self, Array.getElem?_setIfInBounds_self_of_lt (by omega)]
    · rw [updN_ne _ _ e, Array.getElem?_setIfInBounds_ne (fun e2 => e e2.symm)]
      exact hCc i hi
  · by_cases e : i = j
    · subst e
      rw [updN_self, updN_self, hs2, slv_snoc]
      exact own_setc ho hC2 (bty_bag i hi) i _
    · rw [updN_ne _ _ e, updN_ne _ _ e]
      exact own2 (h.row i hi) (bty_ne i j hi hj e) (bty_bag i hi)
  · by_cases e : i = j
    · subst e
      rw [updN_self, hs2]
      omega
    · rw [updN_ne _ _ e]
      exact h.few i hi
  · by_cases e : i = j
    · subst e
      rw [updN_self] at hs
      rcases List.mem_append.1 hs with hs | hs
      · obtain ⟨ys, hy⟩ := h.has i hi s hs
        exact ⟨ys, own2 hy (bel_bty i i hi hi) (bel_bag i hi)⟩
      · rw [List.mem_singleton] at hs
        subst hs
        exact ⟨xs, own2 hl (bel_bty i i hi hi) (bel_bag i hi)⟩
    · rw [updN_ne _ _ e] at hs
      obtain ⟨ys, hy⟩ := h.has i hi s hs
      exact ⟨ys, own2 hy (bel_bty i j hi hj) (bel_bag i hi)⟩
  · by_cases e : i = j
    · subst e
      rw [updN_self] at hs ht
      have hlen : (L i).length = (L i).length := rfl
      by_cases ha : a < (L i).length
      · rw [List.getElem?_append_left ha] at hs
        by_cases hk : k < (L i).length
        · rw [List.getElem?_append_left hk] at ht
          exact h.sep i hi a k s t b hs ht hak hb
        · rw [List.getElem?_append_right (by omega)] at ht
          have h2 := (List.getElem?_eq_some_iff.1 ht).1
          simp at h2
          have h3 : k - (L i).length = 0 := by omega
          rw [h3] at ht
          simp at ht
          subst ht
          exact hsep s (List.mem_of_getElem? hs) b hb
      · rw [List.getElem?_append_right (by omega)] at hs
        have h2 := (List.getElem?_eq_some_iff.1 hs).1
        simp at h2
        have h3 : a - (L i).length = 0 := by omega
        rw [h3] at hs
        simp at hs
        subst hs
        by_cases hk : k < (L i).length
        · rw [List.getElem?_append_left hk] at ht
          exact fun e2 => hsep t (List.mem_of_getElem? ht) b e2 hb
        · rw [List.getElem?_append_right (by omega)] at ht
          have h4 := (List.getElem?_eq_some_iff.1 ht).1
          simp at h4
          omega
    · rw [updN_ne _ _ e] at hs ht
      exact h.sep i hi a k s t b hs ht hak hb
  · by_cases e : i = j
    · subst e
      rw [updN_self] at hs
      rcases List.mem_append.1 hs with hs | hs
      · exact h.fewN i hi s hs
      · rw [List.mem_singleton] at hs
        subst hs
        exact hlf
    · rw [updN_ne _ _ e] at hs
      exact h.fewN i hi s hs
  · exact (kk.mono (T := BagF g G) (fun i _ hi => .inr ⟨j, hj, hi⟩)).setCell (p := ⟨g, j, none⟩) (fun _ => .inl rfl) _
end
/-- The empty bag. -/
def slNil : Sl := ⟨none, 0, 0⟩
theorem BagN.new (w : World) (base : Nat) : BagN (w.alloc (.cells (Array.replicate 19 (.slice none 0 0)) 83)) base w.heap.size (fun _ => slNil) (fun _ => []) := by
  refine ⟨⟨_, Blk.new _ _ _, by simp, fun j hj => ?_⟩, fun j _ => World.ownsRow_nil _ _ _ _, fun j _ => Nat.zero_le _, fun j _ s hs => by simp at hs, fun j _ i k s t b hs => by simp at hs, fun j _ s hs => by simp at hs⟩
  rw [Array.getElem?_replicate, if_pos hj]
  rfl
end Go.Proofs.Ytpncbggjngamgaa
namespace Go.Proofs.Ytpncbggjngamgaa
set_option linter.unusedVariables false
open Go.RowKit

theorem SE.ok.grown {base b2 size n : Nat} {w w' : World} {s : SE} {e : TypeId} {v : Value} {xs : List Value} (h : s.ok base w) (ho : w.ownsRow b2 e size v n xs) (hne : 5 ≠ e) (hg : w.grownBy w' v.ownBlock) : s.ok base w' :=
  ⟨h.head, own_kept h.body (Kept.of_grown hg) (fun i hi e2 => own_ne h.body ho hne i hi e2), h.oct, h.len⟩
/-- What All has gathered. -/
structure AllR (w : World) (xs : List OneE) (now : Int) (lv iv : Value) (wr : World) : Prop where
  ex : ∃ (i : Nat) (ss : List SE), iv = .int .i64 i ∧ i ≤ xs.length ∧ Hid (ss.map SE.h = (xs.take i).map fun x => x.headAt now) ∧ Hid (ss.map SE.B = (xs.take i).map fun x => x.s.B) ∧ Hid (∀ s ∈ ss, s.ok w.heap.size wr) ∧ Hid (wr.ownsRow w.heap.size 31 9 lv i (ss.flatMap stL))
  below : Hid (Below w.heap.size w wr)
set_option maxRecDepth 100000 in
set_option maxHeartbeats 8000000 in
theorem all11 (base : Nat) (w : World) (g : Nat) (v : Value) (most : Int) (xs : List OneE) (q : RfS base w g v most xs) (now : Int) (hn : 0 ≤ now ∧ now ≤ 9223372036854775807) (hN : xs.length ≤ 1048576) :
    Calls Try.prog 54 #[.pointer (some ⟨g, 0, none⟩), .int .i64 now] w fun e w' => ∃ A c, e = .returned (.slice A xs.length c) ∧ ∃ ss, Sts w' A xs.length c ss ∧ ss.map SE.h = xs.map (fun x => x.headAt now) ∧ ss.map SE.B = xs.map (fun x => x.s.B) ∧ Below w.heap.size w w' := by
  obtain ⟨A, n, c, rfl, hl, hc1, hc2⟩ := q.shape
  have HQ := Lib.hid q
  have HL := Lib.hid hl
  have hN2 : n ≤ 1048576 := by omega
  have dn : decide (0 ≤ now) = true := decide_eq_true hn.1
  clear q hl hN
  go_enter Try.func54, Try.ntmps54
  go_wp2_with fail
  go_loopw [5, 6] (AllR w xs now) (fun _ iv _ => n - (intOf iv).toNat)
  case atStart => exact ⟨⟨0, [], rfl, Nat.zero_le _, Lib.hid rfl, Lib.hid rfl, Lib.hid (by simp), Lib.hid (World.ownsRow_nil _ _ _ _)⟩, Lib.hid (Below.refl _ _)⟩
  case round =>
    obtain ⟨⟨i, ss, rfl, hi, hh, hB, hok, hrow⟩, hb⟩ := hrel
    rw [HL.out] at hi
    generalize wr = wj at *
    have HQj := Lib.hid (HQ.out.later hb.out)
    have g0 := HQj.out.blk.cell 0
    simp only [List.getElem?_toArray, List.getElem?_cons_zero, List.getElem?_cons_succ] at g0
    by_cases hlt : i < n
    · have hltI : (i : Int) < n := by omega
      obtain ⟨ad, x, hA, hxs, hxa⟩ := HQj.out.at_ hlt HL.out
      subst hA
      have HX := Lib.hid hxs
      have hgd := HQj.out.good x (List.mem_of_getElem? hxs)
      have HAt := Lib.hid (at11 x now wj hgd.1 hgd.2 hn)
      obtain ⟨q0, q1, q2, q3, q4, q5, q6, q7, q8, q9⟩ := hxa
      clear hxs hgd
      go_wp2_with fail
      refine HAt.out.mono ?_
      rintro e w3 ⟨s', rfl, h1, h2, h3, h4, h5⟩
      have hsz := hb.out.size
      have HS := Lib.hid (And.intro h1 h3)
      have HO3 := Lib.hid (h2.mono hsz)
      have HR3 := Lib.hid (own_kept hrow.out (Kept.of_new h5 (fun _ => False)) (fun _ _ h => h))
      have HA3 : Hid (∀ s ∈ ss, s.ok w.heap.size w3) := Lib.hid fun s hs => (hok.out s hs).later h5
      have HB3 := Lib.hid (below_then hb.out h5)
      clear h1 h2 h3 h4 h5 HAt q0 q1 q2 q3 q4 q5 q6 q7 q8 q9 g0 hok hrow hsz
      have hb4 : Below w3.heap.size w3 (w3.alloc (.cells #[.int .u16 s'.h.age, .int .u8 s'.h.opts, .int .u8 s'.h.typ, .int .u32 s'.h.id, .int .u32 s'.h.adv, .int .i32 s'.h.seq, .int .u16 s'.h.sum, .int .u16 s'.h.len, .slice s'.A s'.n s'.c] 31)) := (Below.refl _ _).alloc (Nat.le_refl _) _
      have HXr : Hid (Reads (w3.alloc (.cells #[.int .u16 s'.h.age, .int .u8 s'.h.opts, .int .u8 s'.h.typ, .int .u32 s'.h.id, .int .u32 s'.h.adv, .int .i32 s'.h.seq, .int .u16 s'.h.sum, .int .u16 s'.h.len, .slice s'.A s'.n s'.c] 31)) (w3.heap.size + 1) 9 (some ⟨w3.heap.size, 0, none⟩) 1 (stL s')) :=
        Lib.hid ⟨rfl, fun _ => ⟨_, rfl, Nat.lt_succ_self _, fun j u hu => by rw [add_none, Nat.zero_add, (Blk.new w3 31 #[.int .u16 s'.h.age, .int .u8 s'.h.opts, .int .u8 s'.h.typ, .int .u32 s'.h.id, .int .u32 s'.h.adv, .int .i32 s'.h.seq, .int .u16 s'.h.sum, .int .u16 s'.h.len, .slice s'.A s'.n s'.c]).cell]; simpa [stL] using hu⟩⟩
      have HR4 := Lib.hid (HR3.out.alloc (.cells #[.int .u16 s'.h.age, .int .u8 s'.h.opts, .int .u8 s'.h.typ, .int .u32 s'.h.id, .int .u32 s'.h.adv, .int .i32 s'.h.seq, .int .u16 s'.h.sum, .int .u16 s'.h.len, .slice s'.A s'.n s'.c] 31))
      have HO4 := Lib.hid (HO3.out.later hb4)
      have HA4 : Hid (∀ s ∈ ss, s.ok w.heap.size (w3.alloc (.cells #[.int .u16 s'.h.age, .int .u8 s'.h.opts, .int .u8 s'.h.typ, .int .u32 s'.h.id, .int .u32 s'.h.adv, .int .i32 s'.h.seq, .int .u16 s'.h.sum, .int .u16 s'.h.len, .slice s'.A s'.n s'.c] 31))) := Lib.hid fun s hs => (HA3.out s hs).later hb4
      have HB4 := Lib.hid (below_then HB3.out hb4)
      have hb3s : w.heap.size ≤ w3.heap.size := HB3.out.size
      clear hb4 HR3 HO3 HA3 HB3
      go_wp2_with (at_builtin; go_must (refine wpList_app el_state rfl (.tmp 20) (.tmp 30) rfl HR4.out rfl HXr.out rfl (stL_one _) (by simp only [maxLen]; omega) (by omega) (by rw [World.size_alloc]; omega) ?_); intro v' w' ho' hb' hg' _; have H5 := Lib.hid (And.intro ho' (And.intro hb' hg')); clear ho' hb' hg')
      go_roundw
      case rel =>
        refine ⟨⟨i + 1, ss ++ [s'], by go_num, by rw [HL.out]; omega, Lib.hid ?_, Lib.hid ?_, Lib.hid ?_, Lib.hid ?_⟩, Lib.hid (HB4.out.trans H5.out.2.1)⟩
        · rw [take_one HX.out, List.map_append, List.map_append, hh.out, List.map_singleton, List.map_singleton, HS.out.1]
        · rw [take_one HX.out, List.map_append, List.map_append, hB.out, List.map_singleton, List.map_singleton, HS.out.2]
        · intro s hs
          rcases List.mem_append.1 hs with hs | hs
          · exact (HA4.out s hs).grown HR4.out (by decide) H5.out.2.2
          · rw [List.mem_singleton] at hs
            subst hs
            exact HO4.out.grown HR4.out (by decide) H5.out.2.2
        · have h := H5.out.1
          rw [List.flatMap_append]
          simpa using h
      case measure => simp [intOf]; omega
    · obtain rfl : i = n := by omega
      go_wp2_with fail
      go_ret
      obtain ⟨A', c', rfl, k1, k2, k3⟩ := own_shape_n hrow.out
      have ht : xs.take i = xs := List.take_of_length_le (by rw [HL.out]; exact Nat.le_refl _)
      have hsl : ss.length = i := by rw [← List.length_map (f := SE.h), hh.out, List.length_map, ht, HL.out]
      rw [HL.out]
      exact ⟨A', c', rfl, ss, ⟨k3, hsl, ⟨k1, k2⟩, fun s hs => (hok.out s hs).rd⟩, by rw [hh.out, ht], by rw [hB.out, ht], hb.out⟩
end Go.Proofs.Ytpncbggjngamgaa
namespace Go.Proofs.Ytpncbggjngamgaa
set_option linter.unusedVariables false
open Go.RowKit

theorem wpList_val {P : Program} {ops : Array Oper} {rest : List Oper} {o : Oper} {a : Act} {w : World} {Q : Exit → Act → World → Prop} (hg : o.guard = none) (v : Value)
    (hr : (execOp a.eval o).run P w = .ok (.value v) w) (h : wpList P ops Q rest (a.put o.dst v) w) : wpList P ops Q (o :: rest) a w :=
  wpList_plain hg fun _ hK => by
    unfold Oper.wp
    rw [hr]
    exact hK _ _ h
structure HeadR (w : World) (xs : List OneE) (now : Int) (lv iv : Value) (wr : World) : Prop where
  ex : ∃ i : Nat, iv = .int .i64 i ∧ i ≤ xs.length ∧ Hid (wr.ownsRow w.heap.size 28 8 lv i (((xs.take i).map fun x => x.headAt now).flatMap Hd.cells))
  below : Hid (Below w.heap.size w wr)
set_option maxRecDepth 100000 in
set_option maxHeartbeats 8000000 in
theorem heads11 (base : Nat) (w : World) (g : Nat) (v : Value) (most : Int) (xs : List OneE) (q : RfS base w g v most xs) (now : Int) (hn : 0 ≤ now ∧ now ≤ 9223372036854775807) (hN : xs.length ≤ 1048576) :
    Calls Try.prog 56 #[.pointer (some ⟨g, 0, none⟩), .int .i64 now] w fun e w' => ∃ A c, e = .returned (.slice A xs.length c) ∧ Hdl w' A xs.length c (xs.map fun x => x.headAt now) ∧ Below w.heap.size w w' := by
  obtain ⟨A, n, c, rfl, hl, hc1, hc2⟩ := q.shape
  have HQ := Lib.hid q
  have HL := Lib.hid hl
  have hN2 : n ≤ 1048576 := by omega
  have dn : decide (0 ≤ now) = true := decide_eq_true hn.1
  clear q hl hN
  go_enter Try.func56, Try.ntmps56
  go_wp2_with fail
  go_loopw [5, 6] (HeadR w xs now) (fun _ iv _ => n - (intOf iv).toNat)
  case atStart => exact ⟨⟨0, rfl, Nat.zero_le _, Lib.hid (World.ownsRow_nil _ _ _ _)⟩, Lib.hid (Below.refl _ _)⟩
  case round =>
    obtain ⟨⟨i, rfl, hi, hrow⟩, hb⟩ := hrel
    rw [HL.out] at hi
    generalize wr = wj at *
    have HQj := Lib.hid (HQ.out.later hb.out)
    have g0 := HQj.out.blk.cell 0
    simp only [List.getElem?_toArray, List.getElem?_cons_zero, List.getElem?_cons_succ] at g0
    by_cases hlt : i < n
    · have hltI : (i : Int) < n := by omega
      obtain ⟨ad, x, hA, hxs, hxa⟩ := HQj.out.at_ hlt HL.out
      subst hA
      have HX := Lib.hid hxs
      have hgd := HQj.out.good x (List.mem_of_getElem? hxs)
      have HAt := Lib.hid (at11 x now wj hgd.1 hgd.2 hn)
      obtain ⟨q0, q1, q2, q3, q4, q5, q6, q7, q8, q9⟩ := hxa
      clear hxs hgd
      go_wp2_with fail
      refine HAt.out.mono ?_
      rintro e w3 ⟨s', rfl, h1, h2, h3, h4, h5⟩
      have hsz := hb.out.size
      have HS := Lib.hid (And.intro h1 h3)
      have HR3 := Lib.hid (own_kept hrow.out (Kept.of_new h5 (fun _ => False)) (fun _ _ h => h))
      have HB3 := Lib.hid (below_then hb.out h5)
      clear h1 h2 h3 h4 h5 HAt q0 q1 q2 q3 q4 q5 q6 q7 q8 q9 g0 hrow hsz
      have hb4 : Below w3.heap.size w3 (w3.alloc (.cells #[.int .u16 s'.h.age, .int .u8 s'.h.opts, .int .u8 s'.h.typ, .int .u32 s'.h.id, .int .u32 s'.h.adv, .int .i32 s'.h.seq, .int .u16 s'.h.sum, .int .u16 s'.h.len] 28)) := (Below.refl _ _).alloc (Nat.le_refl _) _
      have HXr : Hid (Reads (w3.alloc (.cells #[.int .u16 s'.h.age, .int .u8 s'.h.opts, .int .u8 s'.h.typ, .int .u32 s'.h.id, .int .u32 s'.h.adv, .int .i32 s'.h.seq, .int .u16 s'.h.sum, .int .u16 s'.h.len] 28)) (w3.heap.size + 1) 8 (some ⟨w3.heap.size, 0, none⟩) 1 (s'.h.cells)) :=
        Lib.hid ⟨rfl, fun _ => ⟨_, rfl, Nat.lt_succ_self _, fun j u hu => by rw [add_none, Nat.zero_add, (Blk.new w3 28 #[.int .u16 s'.h.age, .int .u8 s'.h.opts, .int .u8 s'.h.typ, .int .u32 s'.h.id, .int .u32 s'.h.adv, .int .i32 s'.h.seq, .int .u16 s'.h.sum, .int .u16 s'.h.len]).cell]; simpa [Hd.cells] using hu⟩⟩
      have HR4 := Lib.hid (HR3.out.alloc (.cells #[.int .u16 s'.h.age, .int .u8 s'.h.opts, .int .u8 s'.h.typ, .int .u32 s'.h.id, .int .u32 s'.h.adv, .int .i32 s'.h.seq, .int .u16 s'.h.sum, .int .u16 s'.h.len] 28))
      have HB4 := Lib.hid (below_then HB3.out hb4)
      have hb3s : w.heap.size ≤ w3.heap.size := HB3.out.size
      clear hb4 HR3 HB3
      go_wp2_with (first | (refine wpList_val (o := ⟨some 30, _, _, _, _, _⟩) rfl (.agg #[.int .u16 s'.h.age, .int .u8 s'.h.opts, .int .u8 s'.h.typ, .int .u32 s'.h.id, .int .u32 s'.h.adv, .int .i32 s'.h.seq, .int .u16 s'.h.sum, .int .u16 s'.h.len]) (by kernel_rfl) ?_) | (at_builtin; go_must (refine wpList_app el_head rfl (.tmp 20) (.tmp 31) rfl HR4.out rfl HXr.out rfl (hd_one _) (by simp only [maxLen]; omega) (by omega) (by rw [World.size_alloc]; omega) ?_); intro v' w' ho' hb' hg' _; have H5 := Lib.hid (And.intro ho' (And.intro hb' hg')); clear ho' hb' hg'))
      go_roundw
      case rel =>
        refine ⟨⟨i + 1, by go_num, by rw [HL.out]; omega, Lib.hid ?_⟩, Lib.hid (HB4.out.trans H5.out.2.1)⟩
        have h := H5.out.1
        rw [take_one HX.out, List.map_append, List.flatMap_append, List.map_singleton, ← HS.out.1]
        simpa using h
      case measure => simp [intOf]; omega
    · obtain rfl : i = n := by omega
      go_wp2_with fail
      go_ret
      obtain ⟨A', c', rfl, k1, k2, k3⟩ := own_shape_n hrow.out
      rw [List.take_of_length_le (by rw [HL.out]; exact Nat.le_refl _)] at k3
      rw [HL.out]
      exact ⟨A', c', rfl, ⟨k3, by rw [List.length_map, HL.out], k1, k2⟩, hb.out⟩
end Go.Proofs.Ytpncbggjngamgaa
namespace Go.Proofs.Ytpncbggjngamgaa
set_option linter.unusedVariables false
open Go.RowKit

/-- The keys of those that are old. -/
def dueL (xs : List OneE) (now : Int) : List Ky3 := (xs.filter fun x => oldA (x.age now)).map fun x => x.s.key
structure DueR (w : World) (xs : List OneE) (now : Int) (lv iv : Value) (wr : World) : Prop where
  ex : ∃ i : Nat, iv = .int .i64 i ∧ i ≤ xs.length ∧ Hid (wr.ownsRow w.heap.size 45 3 lv (dueL (xs.take i) now).length ((dueL (xs.take i) now).flatMap keyC))
  below : Hid (Below w.heap.size w wr)
set_option maxRecDepth 100000 in
set_option maxHeartbeats 8000000 in
theorem due11 (base : Nat) (w : World) (g : Nat) (v : Value) (most : Int) (xs : List OneE) (q : RfS base w g v most xs) (now : Int) (hn : 0 ≤ now ∧ now ≤ 9223372036854775807) (hN : xs.length ≤ 1048576) :
    Calls Try.prog 57 #[.pointer (some ⟨g, 0, none⟩), .int .i64 now] w fun e w' => ∃ A n c, e = .returned (.slice A n c) ∧ Kyl w' A n c (dueL xs now) ∧ Below w.heap.size w w' := by
  obtain ⟨A, n, c, rfl, hl, hc1, hc2⟩ := q.shape
  have HQ := Lib.hid q
  have HL := Lib.hid hl
  have hN2 : n ≤ 1048576 := by omega
  have dn : decide (0 ≤ now) = true := decide_eq_true hn.1
  clear q hl hN
  go_enter Try.func57, Try.ntmps57
  go_wp2_with fail
  go_loopw [5, 6] (DueR w xs now) (fun _ iv _ => n - (intOf iv).toNat)
  case atStart => exact ⟨⟨0, rfl, Nat.zero_le _, Lib.hid (World.ownsRow_nil _ _ _ _)⟩, Lib.hid (Below.refl _ _)⟩
  case round =>
    obtain ⟨⟨i, rfl, hi, hrow⟩, hb⟩ := hrel
    rw [HL.out] at hi
    generalize wr = wj at *
    have HQj := Lib.hid (HQ.out.later hb.out)
    have g0 := HQj.out.blk.cell 0
    simp only [List.getElem?_toArray, List.getElem?_cons_zero, List.getElem?_cons_succ] at g0
    by_cases hlt : i < n
    · have hltI : (i : Int) < n := by omega
      obtain ⟨ad, x, hA, hxs, hxa⟩ := HQj.out.at_ hlt HL.out
      subst hA
      have HX := Lib.hid hxs
      have hgd := HQj.out.good x (List.mem_of_getElem? hxs)
      have HAt := Lib.hid (at11 x now wj hgd.1 hgd.2 hn)
      obtain ⟨q0, q1, q2, q3, q4, q5, q6, q7, q8, q9⟩ := hxa
      clear hxs hgd
      go_wp2_with fail
      refine HAt.out.mono ?_
      rintro e w3 ⟨s', rfl, h1, h2, h3, h4, h5⟩
      have hsz := hb.out.size
      have HS := Lib.hid (And.intro h1 h3)
      have HR3 := Lib.hid (own_kept hrow.out (Kept.of_new h5 (fun _ => False)) (fun _ _ h => h))
      have HB3 := Lib.hid (below_then hb.out h5)
      have HAge := Lib.hid h2.head.age
      clear h1 h2 h3 h4 h5 HAt q0 q1 q2 q3 q4 q5 q6 q7 q8 q9 g0 hrow hsz
      have hb4 : Below w3.heap.size w3 (w3.alloc (.cells #[.int .u16 s'.h.age, .int .u8 s'.h.opts, .int .u8 s'.h.typ, .int .u32 s'.h.id, .int .u32 s'.h.adv, .int .i32 s'.h.seq, .int .u16 s'.h.sum, .int .u16 s'.h.len, .slice s'.A s'.n s'.c] 31)) := (Below.refl _ _).alloc (Nat.le_refl _) _
      have HX4 : Hid (Blk (w3.alloc (.cells #[.int .u16 s'.h.age, .int .u8 s'.h.opts, .int .u8 s'.h.typ, .int .u32 s'.h.id, .int .u32 s'.h.adv, .int .i32 s'.h.seq, .int .u16 s'.h.sum, .int .u16 s'.h.len, .slice s'.A s'.n s'.c] 31)) w3.heap.size 31 #[.int .u16 s'.h.age, .int .u8 s'.h.opts, .int .u8 s'.h.typ, .int .u32 s'.h.id, .int .u32 s'.h.adv, .int .i32 s'.h.seq, .int .u16 s'.h.sum, .int .u16 s'.h.len, .slice s'.A s'.n s'.c]) := Lib.hid (Blk.new _ _ _)
      have HR4 := Lib.hid (own_kept HR3.out (Kept.of_new hb4 (fun _ => False)) (fun _ _ h => h))
      have HB4 := Lib.hid (below_then HB3.out hb4)
      have z0 := HX4.out.cell 0; have z1 := HX4.out.cell 1; have z2 := HX4.out.cell 2; have z3 := HX4.out.cell 3; have z4 := HX4.out.cell 4; have z5 := HX4.out.cell 5; have z6 := HX4.out.cell 6; have z7 := HX4.out.cell 7
      simp only [List.getElem?_toArray, List.getElem?_cons_zero, List.getElem?_cons_succ] at z0 z1 z2 z3 z4 z5 z6 z7
      have HOl := Lib.hid (fun W : World => old05 s'.h.age W HAge.out.1 HAge.out.2)
      have hao : oldA (x.age now) = (yearsOf s'.h.age == 3600) := by rw [HS.out.1]; rfl
      have hkey : (s'.h.typ, s'.h.id, s'.h.adv) = x.s.key := by rw [HS.out.1]; rfl
      clear hb4 HR3 HB3
      obtain ⟨o, ho⟩ : ∃ o, (yearsOf s'.h.age == 3600) = o := ⟨_, rfl⟩
      rw [ho] at HOl hao
      have HAo := Lib.hid (And.intro hao hkey)
      clear ho hao hkey
      cases o with
      | false =>
        go_wp2_with fail
        refine (HOl.out _).mono ?_
        rintro e w' ⟨rfl, rfl⟩
        clear z0 z1 z2 z3 z4 z5 z6 z7
        go_wp2_with fail
        go_roundw
        case rel =>
          refine ⟨⟨i + 1, by go_num, by rw [HL.out]; omega, Lib.hid ?_⟩, HB4⟩
          have h := HR4.out
          rw [show dueL (xs.take (i + 1)) now = dueL (xs.take i) now from by unfold dueL; rw [take_one HX.out, List.filter_append, List.filter_cons_of_neg (by rw [HAo.out.1]; decide), List.filter_nil, List.append_nil]]
          exact h
        case measure => simp [intOf]; omega
      | true =>
        go_wp2_with fail
        refine (HOl.out _).mono ?_
        rintro e w' ⟨rfl, rfl⟩
        go_wp2_with fail
        refine (rkey_hd s'.h _).mono ?_
        rintro e w5 ⟨rfl, hb5⟩
        have HR5 := Lib.hid (own_kept HR4.out (Kept.of_new hb5 (fun _ => False)) (fun _ _ h => h))
        have HB5 := Lib.hid (below_then HB4.out hb5)
        clear hb5 HR4 HB4 z0 z1 z2 z3 z4 z5 z6 z7 HX4
        have hb6 : Below w5.heap.size w5 (w5.alloc (.cells #[.int .u8 s'.h.typ, .int .u32 s'.h.id, .int .u32 s'.h.adv] 45)) := (Below.refl _ _).alloc (Nat.le_refl _) _
        have HXr : Hid (Reads (w5.alloc (.cells #[.int .u8 s'.h.typ, .int .u32 s'.h.id, .int .u32 s'.h.adv] 45)) (w5.heap.size + 1) 3 (some ⟨w5.heap.size, 0, none⟩) 1 (keyC (s'.h.typ, s'.h.id, s'.h.adv))) :=
          Lib.hid ⟨rfl, fun _ => ⟨_, rfl, Nat.lt_succ_self _, fun j u hu => by rw [add_none, Nat.zero_add, (Blk.new w5 45 #[.int .u8 s'.h.typ, .int .u32 s'.h.id, .int .u32 s'.h.adv]).cell]; simpa [keyC] using hu⟩⟩
        have HR6 := Lib.hid (HR5.out.alloc (.cells #[.int .u8 s'.h.typ, .int .u32 s'.h.id, .int .u32 s'.h.adv] 45))
        have HB6 := Lib.hid (below_then HB5.out hb6)
        have hb5s : w.heap.size ≤ w5.heap.size := HB5.out.size
        have hdl : (dueL (xs.take i) now).length ≤ i := by unfold dueL; rw [List.length_map]; refine Nat.le_trans (List.length_filter_le _ _) ?_; rw [List.length_take]; omega
        clear hb6 HR5 HB5
        go_wp2_with (at_builtin; go_must (refine wpList_app el_keyC rfl (.tmp 34) (.tmp 38) rfl HR6.out rfl HXr.out rfl (keyC_one _) (by simp only [maxLen]; omega) (by omega) (by rw [World.size_alloc]; omega) ?_); intro v' w' ho' hb' hg' _; have H7 := Lib.hid (And.intro ho' hb'); clear ho' hb' hg')
        go_roundw
        case rel =>
          refine ⟨⟨i + 1, by go_num, by rw [HL.out]; omega, Lib.hid ?_⟩, Lib.hid (HB6.out.trans H7.out.2)⟩
          have h := H7.out.1
          have e1 : dueL (xs.take (i + 1)) now = dueL (xs.take i) now ++ [x.s.key] := by unfold dueL; rw [take_one HX.out, List.filter_append, List.filter_cons_of_pos (by rw [HAo.out.1]), List.filter_nil, List.map_append, List.map_singleton]
          rw [HAo.out.2] at h
          rw [e1, List.flatMap_append, List.length_append]
          simpa using h
        case measure => simp [intOf]; omega
    · obtain rfl : i = n := by omega
      go_wp2_with fail
      go_ret
      obtain ⟨A', c', rfl, k⟩ := own_keys hrow.out
      rw [List.take_of_length_le (by rw [HL.out]; exact Nat.le_refl _)] at k ⊢
      exact ⟨A', _, c', rfl, k, hb.out⟩
end Go.Proofs.Ytpncbggjngamgaa
