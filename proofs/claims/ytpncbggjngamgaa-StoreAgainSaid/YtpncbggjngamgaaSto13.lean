/-
  StoreAges' walk. Printed by gen_sto13.py.
-/
import Derived.Test.YtpncbggjngamgaaSto10
import Derived.Test.YtpncbggjngamgaaEqK
namespace Go.Proofs.Ytpncbggjngamgaa
set_option linter.unusedVariables false
open Go.RowKit

/-- The cells of a head that stands at an address. -/
def HdAt (w : World) (ad : Addr) (h : Hd) : Prop :=
  w.cell? ad = some (.int .u16 h.age) ∧ w.cell? ⟨ad.block, ad.off + 1, none⟩ = some (.int .u8 h.opts) ∧ w.cell? ⟨ad.block, ad.off + 2, none⟩ = some (.int .u8 h.typ) ∧ w.cell? ⟨ad.block, ad.off + 3, none⟩ = some (.int .u32 h.id) ∧
    w.cell? ⟨ad.block, ad.off + 4, none⟩ = some (.int .u32 h.adv) ∧ w.cell? ⟨ad.block, ad.off + 5, none⟩ = some (.int .i32 h.seq) ∧ w.cell? ⟨ad.block, ad.off + 6, none⟩ = some (.int .u16 h.sum) ∧ w.cell? ⟨ad.block, ad.off + 7, none⟩ = some (.int .u16 h.len)
theorem HdAt.later {w w' : World} {ad : Addr} {h : Hd} (a : HdAt w ad h) (hb : Below w.heap.size w w') : HdAt w' ad h := by
  obtain ⟨h0, h1, h2, h3, h4, h5, h6, h7⟩ := a
  have H : ∀ (p : Addr) v, w.cell? p = some v → w'.cell? p = some v := fun p v e => (hb.cell (cell_lt e)).trans e
  exact ⟨H _ _ h0, H _ _ h1, H _ _ h2, H _ _ h3, H _ _ h4, H _ _ h5, H _ _ h6, H _ _ h7⟩
theorem hd_len (h : Hd) : h.cells.length = 8 := rfl
/-- A row of heads that can be read. -/
structure Hdl (w : World) (A : Option Addr) (n c : Nat) (hs : List Hd) : Prop where
  row : Reads w w.heap.size 8 A n (hs.flatMap Hd.cells)
  len : hs.length = n
  cap : n ≤ c ∧ c ≤ 9223372036854775807
theorem Hdl.later {w w' : World} {A : Option Addr} {n c : Nat} {hs : List Hd} (h : Hdl w A n c hs) (hb : Below w.heap.size w w') : Hdl w' A n c hs := ⟨h.row.later hb, h.len, h.cap⟩
theorem Hdl.at_ {w : World} {A : Option Addr} {n c i : Nat} {hs : List Hd} (h : Hdl w A n c hs) (hi : i < n) : ∃ ad k, A = some ad ∧ hs[i]? = some k ∧ HdAt w (ad.add (i * 8)) k := by
  obtain ⟨ad, s, e, hb, hs, h0, hj⟩ := rowG_at hd_len h.row h.len hi
  exact ⟨ad, s, e, hs, h0 _ rfl, hj 1 _ (by decide) rfl, hj 2 _ (by decide) rfl, hj 3 _ (by decide) rfl, hj 4 _ (by decide) rfl, hj 5 _ (by decide) rfl, hj 6 _ (by decide) rfl, hj 7 _ (by decide) rfl⟩
theorem rkey_hd (h : Hd) (w : World) : Calls Try.prog 16 #[.agg #[.int .u16 h.age, .int .u8 h.opts, .int .u8 h.typ, .int .u32 h.id, .int .u32 h.adv, .int .i32 h.seq, .int .u16 h.sum, .int .u16 h.len]] w fun e w' => e = .returned (keyV (h.typ, h.id, h.adv)) ∧ Below w.heap.size w w' := rkey_any h w
/-- What is known when a law's store is asked: its keys in order, which are old now. -/
structure AskS (w : World) (g bm : Nat) (f : Ky3 → Option OneE) (N : Nat) (ks : List Ky3) : Prop where
  q : StF w g bm 4096 f N
  ks : KsOf f N ks
  few : FewAt f
  n : N ≤ 1048576
theorem AskS.later {w w' : World} {g bm N : Nat} {f : Ky3 → Option OneE} {ks : List Ky3} (h : AskS w g bm f N ks) (hb : Below w.heap.size w w') : AskS w' g bm f N ks := ⟨h.q.later hb, h.ks, h.few, h.n⟩
theorem ask_due {w : World} {g bm N : Nat} {f : Ky3 → Option OneE} {ks : List Ky3} (h : AskS w g bm f N ks) {t : Int} (ht : 0 ≤ t ∧ t ≤ 9223372036854775807) {D : List Ky3} (hD : dueK f t ks = D) :
    Calls Try.prog 10 #[.pointer (some ⟨g, 0, none⟩), .int .i64 t] w fun e w' => ∃ A n c, e = .returned (.slice A n c) ∧ Kyl w' A n c D ∧ Below w.heap.size w w' := by
  refine (stdue_any _ t f N w (eachAt_of h.q ht h.n) h.n).mono ?_
  rintro e w' ⟨v, rfl, ks2, h2, hown, hb⟩
  rw [ks_unique h.ks h2, hD] at hown
  obtain ⟨A, c, rfl, hk⟩ := own_keys hown
  exact ⟨A, _, c, rfl, hk, hb⟩
theorem ask_heads {w : World} {g bm N : Nat} {f : Ky3 → Option OneE} {ks : List Ky3} (h : AskS w g bm f N ks) {t : Int} (ht : 0 ≤ t ∧ t ≤ 9223372036854775807) :
    Calls Try.prog 11 #[.pointer (some ⟨g, 0, none⟩), .int .i64 t] w fun e w' => ∃ A c, e = .returned (.slice A N c) ∧ Hdl w' A N c (ks.map (hAt f t)) ∧ Below w.heap.size w w' := by
  refine (stheads_any _ t f N w (eachAt_of h.q ht h.n) h.n).mono ?_
  rintro e w' ⟨v, ks2, rfl, h2, hown, hb⟩
  rw [ks_unique h.ks h2] at hown
  obtain ⟨A, c, rfl, h3, h4, h5⟩ := own_shape_n hown
  exact ⟨A, c, rfl, ⟨h5, by rw [List.length_map, h.ks.len], h3, h4⟩, hb⟩
theorem ask_next {w : World} {g bm N : Nat} {f : Ky3 → Option OneE} {ks : List Ky3} (h : AskS w g bm f N ks) {t : Int} (ht : 0 ≤ t ∧ t ≤ 9223372036854775807) {nx : Option Int} (hx : nextK f t ks = nx) :
    Calls Try.prog 12 #[.pointer (some ⟨g, 0, none⟩), .int .i64 t] w fun e w' => e = .returned (.tuple #[.int .i64 (nxB nx), .bool nx.isSome]) ∧ Below w.heap.size w w' := by
  refine (stnext_any _ t f N w (eachAt_of h.q ht h.n) h.n fun k x hk => ⟨g, bm, 4096, rfl, h.q⟩).mono ?_
  rintro e w' ⟨ks2, h2, rfl, hb⟩
  rw [ks_unique h.ks h2, hx]
  exact ⟨rfl, hb⟩
set_option maxRecDepth 100000 in
set_option maxHeartbeats 16000000 in
theorem ages_walk (A : Option Addr) (n c : Nat) (L : List OpS) (now : Int) (w : World) (hL : Opl w A n L) (hr : ∀ o ∈ L, o.s.n ≤ reachBytes) (hc : n ≤ c ∧ c ≤ 9223372036854775807) (hi : -9223372036854775808 ≤ now ∧ now ≤ 9223372036854775807) :
    Calls Try.prog 3 #[.slice A n c, .int .i64 now] w fun e w' => e = .returned (.bool true) ∧ Below w.heap.size w w' := by
  have HL := Lib.hid hL
  have HR := Lib.hid hr
  clear hL hr
  go_enter Try.func3, Try.ntmps3
  go_wp2_with fail
  refine (opHeavy_any A n c L w HL.out HR.out hc.1 hc.2).mono ?_
  rintro e w1 ⟨b, rfl, ⟨q, rfl⟩, hb⟩
  have HH := Lib.hid hb
  clear hb
  cases b with
  | true =>
    go_wp2_with fail
    refine (lives_any _).mono ?_
    rintro e wl ⟨rfl, hbl⟩
    have HBl := Lib.hid (below_then (below_of_drewN _ w q) hbl)
    clear hbl
    go_wp2_with fail
    go_ret
    exact ⟨rfl, HBl.out⟩
  | false =>
    have h120 := (HH.out rfl).1
    have HSm := Lib.hid (HH.out rfl).2
    clear HH
    by_cases hng : now < 0
    · have d0 : decide (now < 0) = true := decide_eq_true hng
      go_wp2_with fail
      refine (lives_any _).mono ?_
      rintro e wl ⟨rfl, hbl⟩
      have HBl := Lib.hid (below_then (below_of_drewN _ w q) hbl)
      clear hbl
      go_wp2_with fail
      go_ret
      exact ⟨rfl, HBl.out⟩
    · have d0 : decide (now < 0) = false := decide_eq_false hng
      by_cases hbg : 1099511627776 < now
      · have d1 : decide (1099511627776 < now) = true := decide_eq_true hbg
        go_wp2_with fail
        refine (lives_any _).mono ?_
        rintro e wl ⟨rfl, hbl⟩
        have HBl := Lib.hid (below_then (below_of_drewN _ w q) hbl)
        clear hbl
        go_wp2_with fail
        go_ret
        exact ⟨rfl, HBl.out⟩
      · have d1 : decide (1099511627776 < now) = false := decide_eq_false hbg
        go_wp2_with fail
        clear d0 d1
        go_loopw [5] (fun iv wr => ∃ i : Nat, iv = .int .i64 i ∧ i ≤ n ∧ Hid (∀ (m : Nat) o, m < i → L[m]? = some o → o.now ≤ 1099511627776) ∧ Hid (Below w.heap.size w wr)) (fun iv _ => n - (intOf iv).toNat)
        case atStart => exact ⟨0, rfl, Nat.zero_le _, Lib.hid fun m o h => by omega, Lib.hid (below_of_drewN _ w q)⟩
        case round =>
          obtain ⟨i, rfl, hin, hno, hbr⟩ := hrel
          by_cases hlt : i < n
          · have hltI : (i : Int) < n := by omega
            obtain ⟨ad, o, hA, hadl, hso, hok, hat⟩ := (HL.out.later hbr.out).at_ hlt
            subst hA
            have q1 := hat.2.1
            have HO := Lib.hid hso
            clear hat hok hso
            by_cases hob : 1099511627776 < o.now
            · have d2 : decide (1099511627776 < o.now) = true := decide_eq_true hob
              go_wp2_with fail
              refine (lives_any _).mono ?_
              rintro e wl ⟨rfl, hbl⟩
              have HBl := Lib.hid (below_then hbr.out hbl)
              clear hbl
              go_wp2_with fail
              go_ret
              exact ⟨rfl, HBl.out⟩
            · have d2 : decide (1099511627776 < o.now) = false := decide_eq_false hob
              go_wp2_with fail
              go_roundw
              case rel =>
                refine ⟨i + 1, by go_num, by omega, Lib.hid fun m o' hm e1 => ?_, hbr⟩
                by_cases hmi : m < i
                · exact hno.out m o' hmi e1
                · obtain rfl : m = i := by omega
                  rw [HO.out] at e1
                  injection e1 with e1
                  subst e1
                  omega
              case measure => simp [intOf]; omega
          · obtain rfl : i = n := by omega
            have HT : Hid (∀ o ∈ L, o.now ≤ 1099511627776) := Lib.hid fun o ho => by
              obtain ⟨m, hm⟩ := List.getElem?_of_mem ho
              refine hno.out m o ?_ hm
              have h1 := (List.getElem?_eq_some_iff.1 hm).1
              have h2 := HL.out.len
              omega
            clear hno
            generalize wr = w2 at *
            go_wp2_with fail
            refine (filled_any A i c L w2 (HL.out.later hbr.out) h120 HSm.out).mono ?_
            rintro e w3 ⟨g, bm, f, N, rfl, hq, hN, hcf, -, -, hb3⟩
            have HAs := Lib.hid (And.intro hq (And.intro (few_fill hq hcf (fun o ho => (HL.out.later hbr.out).ok o ho) HT.out) (show N ≤ 1048576 by have := HL.out.len; omega)))
            have HB3 := Lib.hid (below_then hbr.out hb3)
            have hnr : 0 ≤ now ∧ now ≤ 9223372036854775807 := ⟨by omega, by omega⟩
            clear hq hN hcf hb3 HT hbr HSm
            go_wp2_with fail
            refine (stdue_any _ now f N w3 (eachAt_of HAs.out.1 hnr HAs.out.2.2) HAs.out.2.2).mono ?_
            rintro e w4 ⟨v, rfl, ks, hks, hown, hb4⟩
            obtain ⟨A0, c0, rfl, hk0⟩ := own_keys hown
            have HA4 := Lib.hid (show AskS w4 g bm f N ks from ⟨HAs.out.1.later hb4, hks, HAs.out.2.1, HAs.out.2.2⟩)
            have HB4 := Lib.hid (below_then HB3.out hb4)
            obtain ⟨D0, hD0⟩ : ∃ D, dueK f now ks = D := ⟨_, rfl⟩
            obtain ⟨nx, hnx⟩ : ∃ nx, nextK f now ks = nx := ⟨_, rfl⟩
            rw [hD0] at hk0 ⊢
            have HD0 := Lib.hid hD0
            have HNX := Lib.hid hnx
            obtain ⟨n0, hn0⟩ : ∃ k, D0.length = k := ⟨_, rfl⟩
            rw [hn0] at hk0 ⊢
            have HK4 := Lib.hid hk0
            clear hD0 hnx hks hown hk0 hb4 HAs HB3 hn0
            go_wp2_with fail
            refine (ask_heads HA4.out hnr).mono ?_
            rintro e w5 ⟨A1, c1, rfl, hh, hb5⟩
            have HH5 := Lib.hid hh
            have HK5 := Lib.hid (HK4.out.later hb5)
            have HA5 := Lib.hid (HA4.out.later hb5)
            have HB5 := Lib.hid (below_then HB4.out hb5)
            clear hh hb5 HK4 HA4 HB4
            go_wp2_with fail
            refine (ask_next HA5.out hnr HNX.out).mono ?_
            rintro e w6 ⟨rfl, hb6⟩
            have HH6 := Lib.hid (HH5.out.later hb6)
            have HK6 := Lib.hid (HK5.out.later hb6)
            have HA6 := Lib.hid (HA5.out.later hb6)
            have HB6 := Lib.hid (below_then HB5.out hb6)
            clear hb6 HH5 HK5 HA5 HB5
            have hc0 := HK6.out.cap
            have hc1 := HH6.out.cap
            cases nx with
            | none =>
              go_wp2_with fail
              refine (stlen_any w6 g bm 4096 f N HA6.out.q).mono ?_
              rintro e w' ⟨rfl, rfl⟩
              have hw1 : IntKind.i64.wrap (now + 3600) = now + 3600 := by rw [IntKind.wrap_i64]; omega
              have hw2 : IntKind.i64.wrap (now + 3600 + 1) = now + 3600 + 1 := by rw [IntKind.wrap_i64]; omega
              go_wp2_with fail
              refine (ask_due HA6.out (t := now + 3600 + 1) (D := D0) (by omega) (by rw [agesK_none HA6.out.few HA6.out.ks HNX.out (by omega), HD0.out])).mono ?_
              rintro e w7 ⟨A2, n2, c2, rfl, hk2, hb7⟩
              have hn2 : n2 = n0 := by rw [← hk2.len, ← HK6.out.len]
              subst hn2
              have hc2 := hk2.cap
              have HB7 := Lib.hid (below_then HB6.out hb7)
              clear hk2 hb7
              go_wp2_with fail
              refine (lives_any _).mono ?_
              rintro e wl ⟨rfl, hbl⟩
              have HBl := Lib.hid (below_then HB7.out hbl)
              clear hbl
              go_wp2_with fail
              go_ret
              exact ⟨rfl, HBl.out⟩
            | some t =>
              obtain ⟨ht1, ht2, he1, he2, he3⟩ := agesK_some HA6.out.few HA6.out.ks HNX.out
              rw [HD0.out] at he1 he2 he3
              obtain ⟨D2, hD2⟩ : ∃ D, dueK f t ks = D := ⟨_, rfl⟩
              rw [hD2] at he2 he3
              have HD2 := Lib.hid (And.intro he1 (And.intro hD2 (And.intro he2 he3)))
              clear he1 he2 he3 hD2
              have d4 : decide (t ≤ now) = false := decide_eq_false (by omega)
              go_wp2_with fail
              refine (stlen_any w6 g bm 4096 f N HA6.out.q).mono ?_
              rintro e w' ⟨rfl, rfl⟩
              have hw1 : IntKind.i64.wrap (t - 1) = t - 1 := by rw [IntKind.wrap_i64]; omega
              go_wp2_with fail
              refine (ask_due HA6.out (t := t - 1) (D := D0) (by omega) HD2.out.1).mono ?_
              rintro e w7 ⟨A2, n2, c2, rfl, hk2, hb7⟩
              have HK27 := Lib.hid hk2
              have HH7 := Lib.hid (HH6.out.later hb7)
              have HK7 := Lib.hid (HK6.out.later hb7)
              have HA7 := Lib.hid (HA6.out.later hb7)
              have HB7 := Lib.hid (below_then HB6.out hb7)
              clear hk2 hb7 HH6 HK6 HA6 HB6 hw1 d4
              go_wp2_with fail
              refine (ask_due HA7.out (t := t) (by omega) HD2.out.2.1).mono ?_
              rintro e w8 ⟨A3, n3, c3, rfl, hk3, hb8⟩
              have HK38 := Lib.hid hk3
              have HK28 := Lib.hid (HK27.out.later hb8)
              have HH8 := Lib.hid (HH7.out.later hb8)
              have HK8 := Lib.hid (HK7.out.later hb8)
              have HA8 := Lib.hid HA7.out.ks
              have HF8 := Lib.hid HA7.out.few
              have HB8 := Lib.hid (below_then HB7.out hb8)
              clear hk3 hb8 HH7 HK7 HA7 HB7 HK27
              have hc3 := HK38.out.cap
              have hlt3 : n0 < n3 := by rw [← HK8.out.len, ← HK38.out.len]; exact HD2.out.2.2.1
              have HSub := Lib.hid HD2.out.2.2.2
              clear HD2
              have d5 : decide ((n3 : Int) ≤ (n0 : Int)) = false := decide_eq_false (by omega)
              have d6 : decide (n3 ≤ n0) = false := decide_eq_false (by omega)
              go_wp2_with fail
              refine (eqKeys_any A2 A0 n2 c2 n0 c0 D0 D0 w8 HK28.out HK8.out).mono ?_
              rintro e w9 ⟨rfl, hb9⟩
              rw [show decide (D0 = D0) = true from decide_eq_true rfl]
              have HK39 := Lib.hid (HK38.out.later hb9)
              have HH9 := Lib.hid (HH8.out.later hb9)
              have HK9 := Lib.hid (HK8.out.later hb9)
              have HB9 := Lib.hid (below_then HB8.out hb9)
              clear hb9 HK38 HK28 HH8 HK8 HB8
              go_wp2_with fail
              clear d5 d6
              clear HNX ht1 ht2 hc0 hc1 hc3 hnr
              have hc0 := HK9.out.cap
              have hc1 := HH9.out.cap
              have hc3 := HK39.out.cap
              go_loopw [14] (fun iv wr => ∃ j : Nat, iv = .int .i64 j ∧ j ≤ n0 ∧ Hid (Below w9.heap.size w9 wr)) (fun iv _ => n0 - (intOf iv).toNat)
              case atStart => exact ⟨0, rfl, Nat.zero_le _, Lib.hid (Below.refl _ _)⟩
              case round =>
                obtain ⟨j, rfl, hj, hbj⟩ := hrel
                generalize wr = wj at *
                by_cases hjn : j < n0
                · have hjI : (j : Int) < n0 := by omega
                  obtain ⟨ad, x, hA0, hxs, hxa⟩ := (HK9.out.later hbj.out).at_ hjn
                  subst hA0
                  have HX := Lib.hid (And.intro hxs hxa)
                  clear hxs hxa
                  go_wp2_with fail
                  go_loopw [15] (fun kv wr2 => ∃ k : Nat, kv = .int .i64 k ∧ k ≤ n3 ∧ Hid (∀ (m : Nat) y, m < k → D2[m]? = some y → y ≠ x) ∧ Hid (Below wj.heap.size wj wr2)) (fun kv _ => n3 - (intOf kv).toNat)
                  case atStart => exact ⟨0, rfl, Nat.zero_le _, Lib.hid fun m y h => by omega, Lib.hid (Below.refl _ _)⟩
                  case round =>
                    obtain ⟨k, rfl, hk, hno, hbk⟩ := hrel
                    by_cases hkn : k < n3
                    · have hkI : (k : Int) < n3 := by omega
                      obtain ⟨bd, y, hA3, hys, hya⟩ := (HK39.out.later (below_then hbj.out hbk.out)).at_ hkn
                      subst hA3
                      have HY := Lib.hid hys
                      have HS : Hid ((fun W : World => KyAt W (bd.add (k * 3)) y ∧ KyAt W (ad.add (j * 3)) x) wr.drew) := Lib.hid ⟨hya.later (Below.refl _ _).drew, HX.out.2.later hbk.out.drew⟩
                      have HB := Lib.hid hbk.out.drew
                      clear hys hya
                      have dk : (((k : Int)) == (n3 : Int)) = false := by rw [beq_eq_false_iff_ne]; omega
                      go_wp2_with fail
                      refine wp_region_s (fun W : World => KyAt W (bd.add (k * 3)) y ∧ KyAt W (ad.add (j * 3)) x) [(0, true), (1, true), (2, true), (3, true), (4, true), (5, true), (6, true), (7, true), (9, true), (10, true), (11, true), (8, true), (12, true), (13, true), (14, true)] (by kernel_rfl) (fun _ d _ _ _ h => by cases d <;> exact h) ?_
                      simp only [List.map_cons, List.map_nil, nthOp_zero, nthOp_succ]
                      generalize wr.drew = w10 at *
                      refine wpS_take HS (by kernel_rfl) (by intro W hW; clear hW; go_simp; try with_reducible rfl) ?_
                      refine wpS_take HS (by kernel_rfl) (by intro W hW; clear hW; go_simp; try with_reducible rfl) ?_
                      refine wpS_take HS (by kernel_rfl) (by intro W hW; clear hW; go_simp; try with_reducible rfl) ?_
                      refine wpS_take HS (by kernel_rfl) (by intro W hW; clear hW; go_simp; try with_reducible rfl) ?_
                      refine wpS_take HS (by kernel_rfl) (by intro W hW; clear hW; go_simp; try with_reducible rfl) ?_
                      refine wpS_take HS (by kernel_rfl) (by intro W hW; clear hW; go_simp; try with_reducible rfl) ?_
                      refine wpS_take HS (by kernel_rfl) (by intro W hW; clear hW; go_simp; try with_reducible rfl) ?_
                      refine wpS_take HS (by kernel_rfl) (by intro W hW; clear hW; go_simp; try with_reducible rfl) ?_
                      refine wpS_take HS (by kernel_rfl) (by intro W hW; clear hW; go_simp; try with_reducible rfl) ?_
                      refine wpS_take HS (by kernel_rfl) (by intro W hW; clear hW; go_simp; try with_reducible rfl) ?_
                      refine wpS_take HS (by kernel_rfl) (by intro W hW; clear hW; go_simp; try with_reducible rfl) ?_
                      go_simp
                      refine wpS_take HS (by kernel_rfl) (by intro W hW; obtain ⟨q0, q1, q2⟩ := hW.1; go_simp; try with_reducible rfl) ?_
                      refine wpS_take HS (by kernel_rfl) (by intro W hW; obtain ⟨q0, q1, q2⟩ := hW.2; go_simp; try with_reducible rfl) ?_
                      go_simp
                      refine wpS_take HS (by kernel_rfl) (fun W _ => exec_key_ne rfl y x rfl rfl W) ?_
                      by_cases hyx : y = x
                      · rw [decide_eq_true hyx]
                        clear hyx
                        refine wpS_take HS (by kernel_rfl) (by intro W hW; clear hW; go_simp; try with_reducible rfl) ?_
                        refine wpS_nil ?_
                        go_simp
                        go_wp2_with fail
                        go_roundw
                        case rel => exact ⟨j + 1, by go_num, by omega, Lib.hid (below_then hbj.out HB.out)⟩
                        case measure => simp [intOf]; omega
                      · rw [decide_eq_false hyx]
                        have HE := Lib.hid hyx
                        clear hyx
                        refine wpS_take HS (by kernel_rfl) (by intro W hW; clear hW; go_simp; try with_reducible rfl) ?_
                        refine wpS_nil ?_
                        go_simp
                        go_wp2_with fail
                        go_roundw
                        case rel =>
                          refine ⟨k + 1, by go_num, by omega, Lib.hid fun m z hm e1 => ?_, HB⟩
                          by_cases hmk : m < k
                          · exact hno.out m z hmk e1
                          · obtain rfl : m = k := by omega
                            rw [HY.out] at e1
                            injection e1 with e1
                            subst e1
                            exact HE.out
                        case measure => simp [intOf]; omega
                    · exfalso
                      obtain ⟨m, hm⟩ := List.getElem?_of_mem (HSub.out x (List.mem_of_getElem? HX.out.1))
                      have h1 := (List.getElem?_eq_some_iff.1 hm).1
                      have h2 := HK39.out.len
                      exact hno.out m x (by omega) hm rfl
                · obtain rfl : j = n0 := by omega
                  clear hjn
                  have HH10 := Lib.hid (HH9.out.later hbj.out)
                  have HB10 := Lib.hid (below_then HB9.out hbj.out)
                  clear HK39 HK9 HB9 HH9 hbj HSub
                  go_wp2_with fail
                  go_loopw [16] (fun iv wr => ∃ m : Nat, iv = .int .i64 m ∧ 1 ≤ m ∧ m ≤ N + 1 ∧ Hid (Below wj.heap.size wj wr)) (fun iv _ => N - (intOf iv).toNat)
                  case atStart => exact ⟨1, rfl, Nat.le_refl _, by omega, Lib.hid (Below.refl _ _)⟩
                  case round =>
                    obtain ⟨m, rfl, hm1, hmN, hbm⟩ := hrel
                    by_cases hmn : m < N
                    · have hmI : (m : Int) < N := by omega
                      obtain ⟨p, hp⟩ : ∃ p : Nat, m = p + 1 := ⟨m - 1, by omega⟩
                      have hpI : (m : Int) - 1 = (p : Int) := by omega
                      have hwp : IntKind.i64.wrap ((m : Int) - 1) = (p : Int) := by rw [IntKind.wrap_i64]; omega
                      have hpN : (p : Int) < N := by omega
                      have hwp2 : IntKind.i64.wrap (p : Int) = (p : Int) := by rw [IntKind.wrap_i64]; omega
                      obtain ⟨ad, x, hA, hxs, hxa⟩ := (HH10.out.later hbm.out).at_ (i := p) (by omega)
                      obtain ⟨bd, y, hA', hys, hya⟩ := (HH10.out.later hbm.out).at_ hmn
                      rw [hA] at hA'
                      injection hA' with hA'
                      subst hA' hA
                      have hlt2 : ltK (x.typ, x.id, x.adv) (y.typ, y.id, y.adv) = true := HA8.out.asc p m _ _ (by omega) (headsK HF8.out HA8.out now hxs) (headsK HF8.out HA8.out now hys)
                      have HC := Lib.hid (cmpK_lt_one hlt2)
                      have HS : Hid ((fun W : World => HdAt W (ad.add (p * 8)) x ∧ HdAt W (ad.add (m * 8)) y) wr.drew) := Lib.hid ⟨hxa.later (Below.refl _ _).drew, hya.later (Below.refl _ _).drew⟩
                      have HB := Lib.hid hbm.out.drew
                      clear hxs hys hxa hya hlt2 hp
                      go_wp2_with fail
                      refine wp_region_s (fun W : World => HdAt W (ad.add (p * 8)) x ∧ HdAt W (ad.add (m * 8)) y) [(0, true), (1, true), (2, true), (3, true), (6, true), (7, true), (8, true), (4, true), (9, true), (5, false), (10, false), (11, false), (12, true)] (by kernel_rfl) (fun _ d _ _ _ h => by cases d <;> exact h) ?_
                      simp only [List.map_cons, List.map_nil, nthOp_zero, nthOp_succ]
                      generalize wr.drew = w10 at *
                      refine wpS_take HS (by kernel_rfl) (by intro W hW; clear hW; go_simp; try with_reducible rfl) ?_
                      refine wpS_take HS (by kernel_rfl) (by intro W hW; clear hW; go_simp; try with_reducible rfl) ?_
                      refine wpS_take HS (by kernel_rfl) (by intro W hW; clear hW; go_simp; try with_reducible rfl) ?_
                      refine wpS_take HS (by kernel_rfl) (by intro W hW; clear hW; go_simp; try with_reducible rfl) ?_
                      refine wpS_take HS (by kernel_rfl) (by intro W hW; clear hW; go_simp; try with_reducible rfl) ?_
                      refine wpS_take HS (by kernel_rfl) (by intro W hW; clear hW; go_simp; try with_reducible rfl) ?_
                      refine wpS_take HS (by kernel_rfl) (by intro W hW; clear hW; go_simp; try with_reducible rfl) ?_
                      refine wpS_take HS (by kernel_rfl) (by intro W hW; obtain ⟨q0, q1, q2, q3, q4, q5, q6, q7⟩ := hW.1; go_simp; try with_reducible rfl) ?_
                      refine wpS_take HS (by kernel_rfl) (by intro W hW; obtain ⟨q0, q1, q2, q3, q4, q5, q6, q7⟩ := hW.2; go_simp; try with_reducible rfl) ?_
                      go_simp
                      refine wpS_do fun K hK => ?_
                      go_wp2_with fail
                      refine (rkey_hd x w10).mono ?_
                      rintro e w11 ⟨rfl, hb11⟩
                      have HS11 : Hid (HdAt w11 (ad.add (p * 8)) x ∧ HdAt w11 (ad.add (m * 8)) y) := Lib.hid ⟨HS.out.1.later hb11, HS.out.2.later hb11⟩
                      have HB11 := Lib.hid (below_then HB.out hb11)
                      clear hb11 HS HB
                      go_wp2_with fail
                      refine hK.out _ _ HS11.out ?_
                      clear hK K
                      refine wpS_do fun K hK => ?_
                      go_wp2_with fail
                      refine (rkey_hd y w11).mono ?_
                      rintro e w12 ⟨rfl, hb12⟩
                      have HS12 : Hid (HdAt w12 (ad.add (p * 8)) x ∧ HdAt w12 (ad.add (m * 8)) y) := Lib.hid ⟨HS11.out.1.later hb12, HS11.out.2.later hb12⟩
                      have HB12 := Lib.hid (below_then HB11.out hb12)
                      clear hb12 HS11 HB11
                      go_wp2_with fail
                      refine hK.out _ _ HS12.out ?_
                      clear hK K
                      refine wpS_do fun K hK => ?_
                      go_wp2_with fail
                      refine (keys_grow (x.typ, x.id, x.adv) (y.typ, y.id, y.adv) w12).mono ?_
                      rintro e w13 ⟨rfl, q', os, hw13⟩
                      rw [HC.out]
                      have hb13 : Below w12.heap.size w12 w13 := by rw [hw13]; exact below_grow w12 q' os
                      have HS13 : Hid (HdAt w13 (ad.add (p * 8)) x ∧ HdAt w13 (ad.add (m * 8)) y) := Lib.hid ⟨HS12.out.1.later hb13, HS12.out.2.later hb13⟩
                      have HB13 := Lib.hid (below_then HB12.out hb13)
                      clear hb13 HS12 HB12 hw13
                      go_wp2_with fail
                      refine hK.out _ _ HS13.out ?_
                      clear hK K
                      refine wpS_take HS13 (by kernel_rfl) (by intro W hW; clear hW; go_simp; try with_reducible rfl) ?_
                      refine wpS_nil ?_
                      go_simp
                      go_wp2_with fail
                      go_roundw
                      case rel => exact ⟨m + 1, by go_num, by omega, by omega, HB13⟩
                      case measure => simp [intOf]; omega
                    · have hmI : ¬ (m : Int) < N := by omega
                      go_wp2_with fail
                      refine (lives_any _).mono ?_
                      rintro e wl ⟨rfl, hbl⟩
                      have HBl := Lib.hid (below_then (below_then HB10.out hbm.out) hbl)
                      clear hbl
                      go_wp2_with fail
                      go_ret
                      exact ⟨rfl, HBl.out⟩
end Go.Proofs.Ytpncbggjngamgaa
