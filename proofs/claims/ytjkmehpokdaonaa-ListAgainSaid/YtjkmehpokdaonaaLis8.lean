/-
  The law ListAgain, walked.
-/
import Derived.Test.YtjkmehpokdaonaaLis7
namespace Go.Proofs.Ytjkmehpokdaonaa
set_option linter.unusedVariables false
open Go.RowKit

theorem exec_key_eq {o : Oper} {ev : Operand → Value} {x y : Operand} {t : TypeId} (ho : o.op = .binOp .eql 46 x y t) (a b : Int × Int × Int) (hx : ev x = keyV a) (hy : ev y = keyV b) (W : World) :
    (execOp ev o).run Try.prog W = .ok (.value (.bool (decide (a = b)))) W := by
  unfold execOp
  simp only [ho]
  rw [hx, hy]
  have e1 : (eqGuard .eql 46 x y (keyV a) (keyV b)).run Try.prog W = .ok () W := run_eqGuard_agg _ _ _ _ _ _ _ Try.eqGuardType46
  simp [binOp, Sem.run_bind, Sem.run_pure, key_eq, e1, Result.andThen_ok]
/-- The first loop: the states put. -/
structure AgRel (w : World) (r : Int) (L : List SE) (g bm : Nat) (i : Value) (wr : World) : Prop where
  ex : ∃ (j : Nat) (F : Nat → Prop) (M : List SE), i = .int .i64 j ∧ j ≤ L.length ∧ Hid (LF wr F g bm r r M) ∧ Hid (M.map SE.core = (L.take j).map SE.core) ∧ Hid (∀ s ∈ L.take j, s.n ≤ 60) ∧ Hid (((L.take j).map SE.key).Nodup) ∧ Hid (∀ b, F b → w.heap.size ≤ b)
  below : Hid (Below w.heap.size w wr)
/-- The loop in it: no key twice. -/
structure AgIn (wj : World) (L : List SE) (j : Nat) (i : Value) (wr : World) : Prop where
  ex : ∃ k : Nat, i = .int .i64 k ∧ k ≤ j ∧ Hid (∀ m s sj, m < k → L[m]? = some s → L[j]? = some sj → s.key ≠ sj.key)
  below : Hid (Below wj.heap.size wj wr)
/-- A list's timer, where it has something to say. -/
def LFt (w : World) (F : Nat → Prop) (g bm : Nat) (r t : Int) (L : List SE) : Prop := ∃ t0, LF w F g bm r t0 L ∧ (L ≠ [] → t0 = t)
theorem front_all : ∀ (L : List SE) (room : Int) (b : Bool), (∀ s ∈ L, s.n ≤ 60) → (80 * (L.length : Int) ≤ room) → front room b L = L
  | [], _, _, _, _ => rfl
  | s :: L, room, b, h, hr => by
    have h1 := h s (by simp)
    simp only [List.length_cons] at hr
    rw [front_on (by omega), front_all L _ _ (fun s hs => h s (by simp [hs])) (by omega)]
structure TickPost (w w' : World) (F : Nat → Prop) (g bm : Nat) (r t : Int) (M : List SE) (e : Ending) : Prop where
  ex : ∃ v Ms, e = .returned v ∧ Sts w.heap.size w' v Ms ∧ (∀ s ∈ Ms, ∃ s0 ∈ M, s0.core = s.core) ∧ (t = 1 → Ms.length = M.length) ∧ (t ≠ 1 → Ms = [])
  lf : LFt w' F g bm r (if t = 1 then r else t - 1) M
  kept : Kept F w w'
theorem tick_all (w : World) (F : Nat → Prop) (g bm : Nat) (r t : Int) (M : List SE) (l : LFt w F g bm r t M) (h0 : 1 ≤ t) (h1 : t ≤ 65535) (h60 : ∀ s ∈ M, s.n ≤ 60) (h12 : M.length ≤ 12) :
    Calls Try.prog 18 #[.pointer (some ⟨g, 0, none⟩)] w fun e w' => TickPost w w' F g bm r t M e := by
  obtain ⟨t0, l, ht⟩ := l
  by_cases hM : M = []
  · subst hM
    refine (tick_none w F g bm r t0 l).mono ?_
    rintro e w' ⟨rfl, rfl⟩
    exact ⟨⟨_, [], rfl, ⟨World.ownsRow_nil _ _ _ _, by simp, by simp⟩, by simp, fun _ => rfl, fun _ => rfl⟩, ⟨t0, l, fun h => absurd rfl h⟩, Kept.refl _ _⟩
  · obtain rfl := ht hM
    by_cases h : t0 = 1
    · subst h
      refine (tick_full w F g bm r M l hM).mono ?_
      rintro e w' ⟨v, Ms, rfl, hs, hc, hl, hk⟩
      have hfa : frontL M = M := front_all M _ _ h60 (by omega)
      rw [hfa] at hc
      refine ⟨⟨v, Ms, rfl, hs, fun s hs => ?_, fun _ => by simpa using congrArg List.length hc, fun h => absurd rfl h⟩, ⟨r, hl, fun _ => by simp⟩, hk⟩
      have h1 : s.core ∈ Ms.map SE.core := List.mem_map.2 ⟨s, hs, rfl⟩
      rw [hc] at h1
      obtain ⟨s0, h2, h3⟩ := List.mem_map.1 h1
      exact ⟨s0, h2, h3⟩
    · refine (tick_wait w F g bm r t0 M l hM (by omega) h1).mono ?_
      rintro e w' ⟨rfl, hl, hk⟩
      exact ⟨⟨_, [], rfl, ⟨World.ownsRow_nil _ _ _ _, by simp, by simp⟩, by simp, fun e => absurd e h, fun _ => rfl⟩, ⟨t0 - 1, hl, fun _ => by rw [if_neg h]⟩, hk⟩
theorem tick_mod {r : Int} {k : Nat} {t : Int} (h1 : 1 ≤ t) (h2 : t ≤ r) (hd : r ∣ (k : Int) + t) : ((k : Int) + 1) % r = 0 ↔ t = 1 := by
  constructor
  · intro h
    have h3 : r ∣ (k : Int) + 1 := Int.dvd_of_emod_eq_zero h
    have h4 : r ∣ t - 1 := by
      have := Int.dvd_sub hd h3
      have e : (k : Int) + t - (k + 1) = t - 1 := by omega
      rwa [e] at this
    have := Int.emod_eq_zero_of_dvd h4
    rw [Int.emod_eq_of_lt (by omega) (by omega)] at this
    omega
  · rintro rfl
    exact Int.emod_eq_zero_of_dvd hd
def confAt (bs : List Bool) (m : Nat) : Bool := bs[m]?.getD false
/-- The second loop: some confirmed. -/
structure AcRel (w : World) (r : Int) (L : List SE) (bs : List Bool) (g bm : Nat) (left i : Value) (wr : World) : Prop where
  ex : ∃ (j lf : Nat) (F : Nat → Prop) (M : List SE), left = .int .i64 lf ∧ i = .int .i64 j ∧ j ≤ L.length ∧ lf ≤ j ∧ Hid (LF wr F g bm r r M) ∧ Hid (M.length + j = L.length + lf) ∧ Hid (∀ s ∈ M, ∃ m sm, L[m]? = some sm ∧ sm.core = s.core ∧ (m < j → confAt bs m = false)) ∧
    Hid (∀ m sm, j ≤ m → L[m]? = some sm → ∃ s ∈ M, s.core = sm.core) ∧ Hid (∀ b, F b → w.heap.size ≤ b)
  below : Hid (Below w.heap.size w wr)
/-- The third loop: time goes by. -/
structure AtRel (w : World) (r : Int) (F : Nat → Prop) (M : List SE) (g bm : Nat) (i : Value) (wr : World) : Prop where
  ex : ∃ (k : Nat) (t : Int), i = .int .i64 ((k : Int) + 1) ∧ (k : Int) ≤ 3 * r ∧ 1 ≤ t ∧ t ≤ r ∧ Hid (r ∣ (k : Int) + t) ∧ Hid (LFt wr F g bm r t M)
  below : Hid (Below w.heap.size w wr)
def AlRel (w : World) (n : Nat) (i : Value) (wr : World) : Prop := ∃ k : Nat, i = .int .i64 k ∧ k ≤ n ∧ Hid (Below w.heap.size w wr)
set_option maxRecDepth 100000 in
set_option maxHeartbeats 8000000 in
theorem listAgain_main (r : Int) (A A2 : Option Addr) (n c n2 c2 : Nat) (L : List SE) (bs : List Bool) (w : World) (h1 : 1 ≤ r) (h2 : r ≤ 20) (hn1 : 1 ≤ n) (hn2 : n ≤ 12) (hL : Stl w A n L) (hB : Reads w w.heap.size 1 A2 n2 (bs.flatMap fun b => [Value.bool b])) (hbl : bs.length = n2) (hc2 : n2 ≤ 9223372036854775807) :
    Calls Try.prog 5 #[.int .u16 r, .slice A n c, .slice A2 n2 c2] w fun e w' => e = .returned (.bool true) ∧ Below w.heap.size w w' := by
  have d0 : (r == 0) = false := by rw [beq_eq_false_iff_ne]; omega
  have d1 : decide (20 < r) = false := decide_eq_false (by omega)
  have d2 : decide ((12 : Int) < n) = false := decide_eq_false (by omega)
  have d3 : ((n : Int) == 0) = false := by rw [beq_eq_false_iff_ne]; omega
  have HL := Lib.hid hL
  have HBo := Lib.hid hB
  have HLen := Lib.hid hL.len
  have HBl := Lib.hid hbl
  clear hL hB hbl
  go_enter Try.func5, Try.ntmps5
  go_wp2_with (go_at_call 13; refine (new_any r _ h1 (by omega)).mono ?_; rintro e w1 ⟨g, bm, rfl, h0, hg, hbm, hb⟩; have H0 := Lib.hid (And.intro h0 (And.intro hg (And.intro hbm hb))); clear h0 hg hbm hb)
  clear d0 d1 d2 d3
  go_loopw [9] (AgRel w r L g bm) (fun t _ => n - (intOf t).toNat)
  case atStart =>
    refine ⟨⟨0, fun b => b = g ∨ b = bm, [], rfl, Nat.zero_le _, Lib.hid ⟨⟨_, H0.out.1.1, OwnW.nil _ _ _, fun i h => by cases h⟩, H0.out.1.2, .inl rfl, .inr rfl, by simp, by simp, by simp, by simp, fun i h => ?_⟩, Lib.hid rfl, Lib.hid (by simp), Lib.hid (by simp), Lib.hid fun b h => ?_⟩, Lib.hid H0.out.2.2.2⟩
    · rcases h with rfl | rfl
      · exact H0.out.1.1.lt
      · exact H0.out.1.2.lt
    · rcases h with rfl | rfl
      · exact H0.out.2.1
      · exact H0.out.2.2.1
  case round =>
    obtain ⟨⟨j, F, M, rfl, hjn, hLF, hcore, h60, hnd, hF⟩, hbr⟩ := hrel
    rw [HLen.out] at hjn
    generalize wr = wj at *
    by_cases hlt : j < n
    · have hltI : (j : Int) < n := by omega
      obtain ⟨ad, sj, hA, hadl, hsj, hok, hat⟩ := (HL.out.later hbr.out).at_ hlt
      subst hA
      have HJ := Lib.hid (And.intro hsj (And.intro hok hat))
      clear hsj hok hat
      obtain ⟨q0, q1, q2, q3, q4, q5, q6, q7, q8⟩ := HJ.out.2.2
      by_cases hlen : 60 < sj.n
      · have d60 : decide ((60 : Int) < sj.n) = true := decide_eq_true (by omega)
        go_wp2_with (go_at_call 10; refine (works_any _).mono ?_; rintro e w2 ⟨rfl, hb⟩; have H2 := Lib.hid hb; clear hb)
        go_ret
        exact ⟨rfl, below_then hbr.out H2.out⟩
      · have d60 : decide ((60 : Int) < sj.n) = false := decide_eq_false (by omega)
        go_wp2
        clear q0 q1 q2 q3 q4 q5 q6 q7 q8 d60
        go_loopw [10] (AgIn wj L j) (fun t _ => j - (intOf t).toNat)
        case atStart => exact ⟨⟨0, rfl, Nat.zero_le _, Lib.hid fun m s sj h => by omega⟩, Lib.hid (Below.refl _ _)⟩
        case round =>
          obtain ⟨⟨k, rfl, hkj, hno⟩, hbk⟩ := hrel
          by_cases hkl : k < j
          · have hklI : (k : Int) < j := by omega
            have HLk := Lib.hid (HL.out.later (below_then hbr.out hbk.out))
            obtain ⟨ad', sk, hA', hadl', hsk, hokk, hatk⟩ := HLk.out.at_ (i := k) (by omega)
            injection hA' with hA'
            subst hA'
            have HK := Lib.hid (And.intro hsk (And.intro hokk hatk))
            clear hsk hokk hatk
            have HSS : Hid ((fun W : World => StAt W (ad.add (k * 9)) sk ∧ StAt W (ad.add (j * 9)) sj) wr.drew) := Lib.hid ⟨HK.out.2.2, HJ.out.2.2.later hbk.out.drew⟩
            have hkn : k < n := by omega
            have hbk2 : Hid (Below wj.heap.size wj wr.drew) := hbk.out.drew
            go_wp2
            refine wp_region_s (fun W : World => StAt W (ad.add (k * 9)) sk ∧ StAt W (ad.add (j * 9)) sj) [(0, true), (1, true), (2, true), (3, true), (6, true), (7, true), (8, true), (9, true), (4, true), (10, true), (5, false), (11, false), (12, true)] (by kernel_rfl) (fun _ d _ _ _ h => by cases d <;> exact h) ?_
            simp only [List.map_cons, List.map_nil, nthOp_zero, nthOp_succ]
            generalize wr.drew = w3 at *
            refine wpS_take HSS (by rfl) (by intro W hW; clear hW; go_simp; try with_reducible rfl) ?_
            refine wpS_take HSS (by rfl) (by intro W hW; clear hW; go_simp; try with_reducible rfl) ?_
            refine wpS_take HSS (by rfl) (by intro W hW; clear hW; go_simp; try with_reducible rfl) ?_
            refine wpS_take HSS (by rfl) (by intro W hW; clear hW; go_simp; try with_reducible rfl) ?_
            refine wpS_take HSS (by rfl) (by intro W hW; clear hW; go_simp; try with_reducible rfl) ?_
            refine wpS_take HSS (by rfl) (by intro W hW; clear hW; go_simp; try with_reducible rfl) ?_
            refine wpS_take HSS (by rfl) (by intro W hW; clear hW; go_simp; try with_reducible rfl) ?_
            refine wpS_take HSS (by rfl) (by intro W hW; clear hW; go_simp; try with_reducible rfl) ?_
            refine wpS_take HSS (by rfl) (by intro W hW; obtain ⟨q0, q1, q2, q3, q4, q5, q6, q7, q8⟩ := hW.1; clear hW; go_simp; try with_reducible rfl) ?_
            refine wpS_take HSS (by rfl) (by intro W hW; obtain ⟨q0, q1, q2, q3, q4, q5, q6, q7, q8⟩ := hW.2; clear hW; go_simp; try with_reducible rfl) ?_
            refine wpS_do fun K hK => ?_
            go_wp2_with fail
            refine (ref14Key_any sk.h _).mono ?_
            rintro e w4 ⟨rfl, hb⟩
            have HSS4 : Hid (StAt w4 (ad.add (k * 9)) sk ∧ StAt w4 (ad.add (j * 9)) sj) := Lib.hid ⟨HSS.out.1.later hb, HSS.out.2.later hb⟩
            have HB4 := Lib.hid (below_then hbk2.out hb)
            clear hb HSS hbk2
            go_wp2_with fail
            refine hK.out _ _ HSS4.out ?_
            clear hK K
            refine wpS_do fun K hK => ?_
            go_wp2_with fail
            refine (ref14Key_any sj.h _).mono ?_
            rintro e w5 ⟨rfl, hb⟩
            have HSS5 : Hid (StAt w5 (ad.add (k * 9)) sk ∧ StAt w5 (ad.add (j * 9)) sj) := Lib.hid ⟨HSS4.out.1.later hb, HSS4.out.2.later hb⟩
            have HB5 := Lib.hid (below_then HB4.out hb)
            clear hb HSS4 HB4
            go_wp2_with fail
            refine hK.out _ _ HSS5.out ?_
            clear hK K
            refine wpS_take HSS5 (by rfl) (fun W hW => exec_key_eq rfl sk.h.key sj.h.key rfl rfl W) ?_
            refine wpS_nil ?_
            by_cases hkk : sk.h.key = sj.h.key
            · rw [decide_eq_true hkk]
              clear hkk
              go_wp2_with (go_at_call 10; refine (works_any _).mono ?_; rintro e w6 ⟨rfl, hb⟩; have H6 := Lib.hid hb; clear hb)
              go_ret
              exact ⟨rfl, below_then (below_then hbr.out HB5.out) H6.out⟩
            · rw [decide_eq_false hkk]
              have HKK := Lib.hid hkk
              clear hkk
              go_wp2
              go_roundw
              case rel =>
                refine ⟨⟨k + 1, by go_num, by omega, Lib.hid fun m s sj' hm e1 e2 => ?_⟩, HB5⟩
                by_cases hmk : m < k
                · exact hno.out m s sj' hmk e1 e2
                · obtain rfl : m = k := by omega
                  rw [HK.out.1] at e1
                  rw [HJ.out.1] at e2
                  injection e1 with e1
                  injection e2 with e2
                  subst e1 e2
                  exact HKK.out
              case measure => simp [intOf]; omega
          · obtain rfl : k = j := by omega
            have HW := Lib.hid (below_then hbr.out hbk.out)
            have HJ2 := Lib.hid (And.intro (HJ.out.2.1.later hbk.out) (HJ.out.2.2.later hbk.out))
            have HLF2 := Lib.hid (hLF.out.later hbk.out)
            have hn60 : sj.n ≤ 1099511627776 := by omega
            have hfew : M.length < 1000000 := by
              have := congrArg List.length hcore.out
              simp only [List.length_map, List.length_take] at this
              omega
            obtain ⟨q0, q1, q2, q3, q4, q5, q6, q7, q8⟩ := HJ2.out.2
            go_wp2_with fail
            refine (copyState_any sj wr (HJ2.out.1.rd hn60)).mono ?_
            rintro e w3 ⟨s', rfl, hcp, hb3⟩
            have HC := Lib.hid hcp
            have HW3 := Lib.hid (below_then HW.out hb3)
            have HLF3 := Lib.hid (HLF2.out.later hb3)
            have HSz := Lib.hid hb3.size
            clear hcp hb3 q0 q1 q2 q3 q4 q5 q6 q7 q8
            go_wp2_with fail
            refine (add_any w3 F g bm r r M s' HLF3.out HC.out.ok.rd (fun ad' e hf => ?_) hfew).mono ?_
            · have h1 := HLF2.out.lim _ hf
              have hw := HC.out.ok.body
              rcases hw.2 with ⟨e2, _⟩ | ⟨g', cap, cur, e2, _⟩
              · have : s'.A = none := by injection e2
                rw [this] at e; cases e
              · have e3 : s'.A = some ⟨g', 0, none⟩ := by injection e2
                have h2 := HC.out.new g' (by rw [e2]; rfl)
                rw [e3] at e
                injection e with e
                subst e
                simp only at h1
                omega
            rintro e w4 ⟨rfl, F4, s4, hlf4, hh4, hB4, hn4, hgr4, hk4⟩
            have HD : Hid (dropL M s'.key = M) := Lib.hid (dropL_no fun s hs e => by
              obtain ⟨m, hm⟩ := List.getElem?_of_mem hs
              have e1 := congrArg (fun l => l[m]?) hcore.out
              simp only [List.getElem?_map, hm, Option.map_some] at e1
              obtain ⟨sm, e2, e3⟩ := Option.map_eq_some_iff.1 e1.symm
              rw [List.getElem?_take] at e2
              split at e2
              · refine hno.out m sm sj (by omega) e2 HJ.out.1 ?_
                have e4 : sm.h = s.h := by injection e3
                rw [SE.key, SE.key, e4, ← HC.out.h]
                exact e
              · cases e2)
            have H4 := Lib.hid (And.intro hlf4 (And.intro hh4 (And.intro hB4 (And.intro hn4 (And.intro hgr4 hk4)))))
            clear hlf4 hh4 hB4 hn4 hgr4 hk4
            go_wp2
            go_roundw
            case rel =>
              have hT : L.take (k + 1) = L.take k ++ [sj] := by rw [List.take_add_one, HJ.out.1]; rfl
              refine ⟨⟨k + 1, F4, M ++ [s4], by go_num, by rw [HLen.out]; omega, ?_, Lib.hid ?_, Lib.hid ?_, Lib.hid ?_, Lib.hid fun b hb => ?_⟩, Lib.hid ?_⟩
              · have := H4.out.1
                rw [HD.out] at this
                split at this <;> exact Lib.hid this
              · rw [hT, List.map_append, List.map_append, hcore.out]
                congr 1
                show [s4.core] = [sj.core]
                unfold SE.core
                rw [H4.out.2.1, H4.out.2.2.1, H4.out.2.2.2.1, HC.out.h, HC.out.B, HC.out.n]
              · intro s hs
                rw [hT, List.mem_append] at hs
                rcases hs with hs | hs
                · exact h60.out s hs
                · simp only [List.mem_cons, List.not_mem_nil, or_false] at hs
                  subst hs; omega
              · rw [hT, List.map_append, List.nodup_append]
                refine ⟨hnd.out, by simp, ?_⟩
                intro a ha b hb
                simp only [List.map_cons, List.map_nil, List.mem_cons, List.not_mem_nil, or_false] at hb
                subst hb
                obtain ⟨s, hs, rfl⟩ := List.mem_map.1 ha
                obtain ⟨m, hm⟩ := List.getElem?_of_mem hs
                rw [List.getElem?_take] at hm
                split at hm
                · exact hno.out m s sj (by omega) hm HJ.out.1
                · cases hm
              · rcases H4.out.2.2.2.2.1.2 b hb with h | h
                · exact hF.out b h
                · exact Nat.le_trans HW3.out.size h
              · exact (Kept.of_new HW3.out (fun b => w.heap.size ≤ b)).trans (H4.out.2.2.2.2.2.mono (fun i _ hi => hF.out i hi)) (fun i _ h => h) |>.below (fun i h => h) (Nat.le_refl _)
            case measure => simp [intOf]; omega
    · obtain rfl : j = n := by omega
      have hT : Hid (L.take j = L) := Lib.hid (List.take_of_length_le (by rw [HLen.out]; exact Nat.le_refl _))
      rw [hT.out] at hcore h60 hnd
      clear hT
      go_wp2_with fail
      clear hlt hjn
      generalize wr = wq at *
      go_loopw [11, 12] (AcRel w r L bs g bm) (fun _ t _ => j - (intOf t).toNat)
      case atStart =>
        refine ⟨⟨0, 0, F, M, rfl, rfl, Nat.zero_le _, Nat.le_refl _, hLF, Lib.hid ?_, Lib.hid fun s hs => ?_, Lib.hid fun m sm _ hm => ?_, hF⟩, hbr⟩
        · have := congrArg List.length hcore.out
          simpa using this
        · have h1 : s.core ∈ M.map SE.core := List.mem_map.2 ⟨s, hs, rfl⟩
          rw [hcore.out] at h1
          obtain ⟨s0, h2, h3⟩ := List.mem_map.1 h1
          obtain ⟨m, hm⟩ := List.getElem?_of_mem h2
          exact ⟨m, s0, hm, h3, fun h => absurd h (Nat.not_lt_zero _)⟩
        · have h1 : sm.core ∈ L.map SE.core := List.mem_map.2 ⟨sm, List.mem_of_getElem? hm, rfl⟩
          rw [← hcore.out] at h1
          obtain ⟨s0, h2, h3⟩ := List.mem_map.1 h1
          exact ⟨s0, h2, h3⟩
      case round =>
        clear hLF hcore hF hbr
        obtain ⟨⟨i, lf, F2, M2, rfl, rfl, hin, hlf, hLF, hlen, hmem, hmem2, hF⟩, hbr⟩ := hrel
        rw [HLen.out] at hin
        by_cases hlt : i < j
        · have hltI : (i : Int) < j := by omega
          by_cases hi2 : i < n2
          · have hi2I : (i : Int) < n2 := by omega
            obtain ⟨ad2, b2, hA2, had2, hb2, hc20, _⟩ := rowG_at (cs := fun b => [Value.bool b]) (k := 1) (fun _ => rfl) ((HBo.out.below hbr.out).more hbr.out.size) HBl.out hi2
            subst hA2
            have c20 := hc20 _ rfl
            rw [Nat.mul_one] at c20
            have HB2 := Lib.hid hb2
            clear hc20 hb2
            cases b2
            · have HCF : Hid (confAt bs i = false) := Lib.hid (by unfold confAt; rw [HB2.out]; rfl)
              go_wp2
              go_roundw
              case rel =>
                refine ⟨⟨i + 1, lf + 1, F2, M2, by go_num, by go_num, by rw [HLen.out]; omega, by omega, hLF, Lib.hid (by have := hlen.out; omega), Lib.hid fun s hs => ?_, Lib.hid fun m sm hm e => hmem2.out m sm (by omega) e, hF⟩, hbr⟩
                obtain ⟨m, sm, e1, e2, e3⟩ := hmem.out s hs
                refine ⟨m, sm, e1, e2, fun hm => ?_⟩
                by_cases hmi : m < i
                · exact e3 hmi
                · obtain rfl : m = i := by omega
                  exact HCF.out
              case measure => simp [intOf]; omega
            · obtain ⟨ad, si, hA, hadl, hsi, hok, hat⟩ := (HL.out.later hbr.out).at_ hlt
              subst hA
              have HJ := Lib.hid (And.intro hsi (And.intro hok hat))
              clear hsi hok hat
              obtain ⟨q0, q1, q2, q3, q4, q5, q6, q7, q8⟩ := HJ.out.2.2
              obtain ⟨s0, hs0, hcs⟩ := hmem2.out i si (Nat.le_refl _) HJ.out.1
              obtain ⟨m0, hm0⟩ := List.getElem?_of_mem hs0
              have hh : s0.h = si.h := by injection hcs
              have hk0 : s0.key = si.h.key := by rw [SE.key, hh]
              have hcB : confB M2 si.h = true := by rw [confB_yes hLF.out.nodup hm0 hk0, hh, newerOf_self]; rfl
              have HCL : Hid (confL M2 si.h = M2.eraseIdx m0) := Lib.hid (by rw [confL_yes hcB, dropL_yes hLF.out.nodup hm0 hk0])
              have HCB := Lib.hid hcB
              have HDN := Lib.hid (dropL_not M2 si.h.key)
              have HCL2 := Lib.hid (confL_yes hcB)
              have HM0 := Lib.hid hm0
              clear hcB hm0 hk0 hh hcs hs0
              go_wp2_with (go_at_call 17; refine (confirmL_any wr F2 g bm r r M2 si.h hLF.out HJ.out.2.1.head).mono ?_; rintro e w5 ⟨he, F5, hl5, hg5, hk5⟩; rw [HCB.out] at he; subst he; have H5 := Lib.hid (And.intro hl5 (And.intro hg5 hk5)); clear hl5 hg5 hk5)
              go_roundw
              case rel =>
                have hmL : m0 < M2.length := (List.getElem?_eq_some_iff.1 HM0.out).1
                refine ⟨⟨i + 1, lf, F5, confL M2 si.h, rfl, by go_num, by rw [HLen.out]; omega, by omega, Lib.hid H5.out.1, Lib.hid ?_, Lib.hid fun s hs => ?_, Lib.hid fun m sm hm e => ?_, Lib.hid fun b hb => ?_⟩, Lib.hid ?_⟩
                · rw [HCL.out, List.length_eraseIdx_of_lt hmL]
                  have := hlen.out
                  omega
                · have hsM : s ∈ M2 := by rw [HCL.out] at hs; exact List.mem_of_mem_eraseIdx hs
                  obtain ⟨m, sm, e1, e2, e3⟩ := hmem.out s hsM
                  refine ⟨m, sm, e1, e2, fun hm => ?_⟩
                  by_cases hmi : m < i
                  · exact e3 hmi
                  · obtain rfl : m = i := by omega
                    rw [HJ.out.1] at e1
                    injection e1 with e1
                    subst e1
                    rw [HCL2.out] at hs
                    refine absurd ?_ (HDN.out s hs)
                    have : si.h = s.h := by injection e2
                    rw [SE.key, ← this]
                · obtain ⟨s, hs, hc⟩ := hmem2.out m sm (by omega) e
                  refine ⟨s, ?_, hc⟩
                  rw [HCL2.out]
                  unfold dropL
                  rw [List.mem_filter]
                  refine ⟨hs, ?_⟩
                  simp only [ne_eq, decide_not, Bool.not_eq_true', decide_eq_false_iff_not]
                  intro hk
                  have h1 : s.h = sm.h := by injection hc
                  have h2 : sm.key = si.key := by rw [SE.key, ← h1]; exact hk
                  have := nodup_at hnd.out e HJ.out.1 h2
                  omega
                · rcases H5.out.2.1.2 b hb with h | h
                  · exact hF.out b h
                  · exact Nat.le_trans hbr.out.size h
                · exact (Kept.of_new hbr.out (fun b => w.heap.size ≤ b)).trans (H5.out.2.2.mono (fun i _ hi => hF.out i hi)) (fun i _ h => h) |>.below (fun i h => h) (Nat.le_refl _)
              case measure => simp [intOf]; omega
          · have HCF : Hid (confAt bs i = false) := Lib.hid (by unfold confAt; rw [List.getElem?_eq_none (by rw [HBl.out]; omega)]; rfl)
            go_wp2
            go_roundw
            case rel =>
              refine ⟨⟨i + 1, lf + 1, F2, M2, by go_num, by go_num, by rw [HLen.out]; omega, by omega, hLF, Lib.hid (by have := hlen.out; omega), Lib.hid fun s hs => ?_, Lib.hid fun m sm hm e => hmem2.out m sm (by omega) e, hF⟩, hbr⟩
              obtain ⟨m, sm, e1, e2, e3⟩ := hmem.out s hs
              refine ⟨m, sm, e1, e2, fun hm => ?_⟩
              by_cases hmi : m < i
              · exact e3 hmi
              · obtain rfl : m = i := by omega
                exact HCF.out
            case measure => simp [intOf]; omega
        · obtain rfl : i = j := by omega
          have h60M : Hid (∀ s ∈ M2, s.n ≤ 60) := Lib.hid fun s hs => by
            obtain ⟨m, sm, e1, e2, _⟩ := hmem.out s hs
            have h1 : sm.n = s.n := by injection e2 with _ e2; injection e2
            rw [← h1]
            exact h60.out sm (List.mem_of_getElem? e1)
          have hlM : Hid (M2.length = lf) := Lib.hid (by have h1 := hlen.out; have h2 := HLen.out; omega)
          have hMC : Hid (∀ s ∈ M2, ∃ m sm, L[m]? = some sm ∧ sm.core = s.core ∧ confAt bs m = false) := Lib.hid fun s hs => by
            obtain ⟨m, sm, e1, e2, e3⟩ := hmem.out s hs
            exact ⟨m, sm, e1, e2, e3 (by have := (List.getElem?_eq_some_iff.1 e1).1; rw [HLen.out] at this; exact this)⟩
          have hfew : M2.length ≤ 12 := by rw [hlM.out]; omega
          clear hmem hmem2 hlen hlt hin h60
          go_wp2_with fail
          clear wj
          generalize wr = wj at *
          go_loopw [13] (AtRel w r F2 M2 g bm) (fun t _ => (3 * r + 1 - intOf t).toNat)
          case atStart => exact ⟨⟨0, r, rfl, by omega, h1, Int.le_refl _, Lib.hid (by simp), Lib.hid ⟨r, hLF.out, fun _ => rfl⟩⟩, hbr⟩
          case round =>
            clear hLF hbr
            obtain ⟨⟨k, t, rfl, hk3, ht1, htr, hdv, hLF⟩, hbr⟩ := hrel
            have hw3 : IntKind.i64.wrap (3 * r) = 3 * r := by rw [IntKind.wrap_i64]; omega
            by_cases hkl : (k : Int) + 1 ≤ 3 * r
            · have hmod := tick_mod ht1 htr hdv.out
              go_wp2_with fail
              refine (tick_all wr F2 g bm r t M2 hLF.out ht1 (by omega) h60M.out hfew).mono ?_
              rintro e w6 ⟨⟨v, Ms, rfl, hS, hin, hl1, hl0⟩, hlf, hkt⟩
              obtain ⟨Av, cv, hv, hle, hcm, hrd, -⟩ := (OwnW.of_own hS.own).shape
              subst hv
              have HRD := Lib.hid hrd
              have HIN : Hid (∀ s ∈ Ms, ∃ m sm, L[m]? = some sm ∧ sm.core = s.core ∧ confAt bs m = false) := Lib.hid fun s hs => by
                obtain ⟨s0, e1, e2⟩ := hin s hs
                obtain ⟨m, sm, e3, e4, e5⟩ := hMC.out s0 e1
                exact ⟨m, sm, e3, e4.trans e2, e5⟩
              have HW6 : Hid (Below w.heap.size w w6) := Lib.hid ((Kept.of_new hbr.out (fun b => w.heap.size ≤ b)).trans (hkt.mono (fun i _ hi => hF.out i hi)) (fun i _ h => h) |>.below (fun i h => h) (Nat.le_refl _))
              have HLT : Hid (LFt w6 F2 g bm r (if t = 1 then r else t - 1) M2) := Lib.hid hlf
              have HDV : Hid (r ∣ ((k + 1 : Nat) : Int) + (if t = 1 then r else t - 1)) := Lib.hid (by
                obtain ⟨q, hq⟩ := hdv.out
                split
                · rename_i h; subst h; exact ⟨q + 1, by rw [Int.mul_add, ← hq]; omega⟩
                · exact ⟨q, by rw [← hq]; omega⟩)
              have ht2 : 1 ≤ (if t = 1 then r else t - 1) ∧ (if t = 1 then r else t - 1) ≤ r := by split <;> omega
              clear hS hin hlf hkt hrd
              have htm : ((k : Int) + 1).tmod r = ((k : Int) + 1) % r := Int.tmod_eq_emod_of_nonneg (by omega)
              obtain ⟨N, hN⟩ : ∃ N, Ms.length = N := ⟨_, rfl⟩
              rw [hN] at hle HRD ⊢
              have HML := Lib.hid hN
              by_cases ht : t = 1
              · have hl := hl1 ht
                rw [hlM.out, hN] at hl
                have e0 := hmod.2 ht
                have m1 : (((k : Int) + 1) % r == 0) = true := by rw [e0]; rfl
                have m2 : (((k : Int) + 1) % r != 0) = false := by rw [e0]; rfl
                have m3 : ((N : Int) != lf) = false := by rw [hl]; simp
                clear hN hl1 hl0 hmod e0 ht hl
                generalize (if t = 1 then r else t - 1) = t2 at *
                go_wp2_with fail
                clear htm m1 m2 m3
                go_loopw [15] (AlRel w6 N) (fun t _ => N - (intOf t).toNat)
                case atStart => exact ⟨0, rfl, Nat.zero_le _, Lib.hid (Below.refl _ _)⟩
                case round =>
                  clear hbr
                  obtain ⟨jj, rfl, hjN, hbj⟩ := hrel
                  by_cases hjl : jj < N
                  · have hjI : (jj : Int) < N := by omega
                    obtain ⟨ad6, sm, hA6, hb6, hsm, q0, qj⟩ := rowG_at cells_len ((HRD.out.below hbj.out).more hbj.out.size) HML.out hjl
                    subst hA6
                    have HM := Lib.hid hsm
                    have HMA : Hid (StAt wr (ad6.add (jj * 9)) sm) := Lib.hid ⟨q0 _ rfl, qj 1 _ (by decide) rfl, qj 2 _ (by decide) rfl, qj 3 _ (by decide) rfl, qj 4 _ (by decide) rfl, qj 5 _ (by decide) rfl, qj 6 _ (by decide) rfl, qj 7 _ (by decide) rfl, qj 8 _ (by decide) rfl⟩
                    clear hsm q0 qj
                    go_wp2_with fail
                    generalize wr = wk at *
                    go_loopw [16] (AlRel wk i) (fun t _ => i - (intOf t).toNat)
                    case atStart => exact ⟨0, rfl, Nat.zero_le _, Lib.hid (Below.refl _ _)⟩
                    case round =>
                      obtain ⟨k2, rfl, hkN, hbk⟩ := hrel
                      by_cases hkl2 : k2 < i
                      · have hkI : (k2 : Int) < i := by omega
                        have HLk := Lib.hid (HL.out.later (below_then HW6.out (below_then hbj.out hbk.out)))
                        obtain ⟨ad, sk, hA', hadl', hsk, hokk, hatk⟩ := HLk.out.at_ (i := k2) hkl2
                        subst hA'
                        have HK := Lib.hid (And.intro hsk (And.intro hokk hatk))
                        clear hsk hokk hatk
                        have hbk2 : Hid (Below wk.heap.size wk wr.drew) := hbk.out.drew
                        by_cases hi2 : k2 < n2
                        · have hi2I : (k2 : Int) < n2 := by omega
                          obtain ⟨ad2, b2, hA2, had2, hb2, hc20, _⟩ := rowG_at (cs := fun b => [Value.bool b]) (k := 1) (fun _ => rfl) ((HBo.out.below (below_then HW6.out (below_then hbj.out hbk.out))).more (below_then HW6.out (below_then hbj.out hbk.out)).size) HBl.out hi2
                          subst hA2
                          have c20 := hc20 _ rfl
                          rw [Nat.mul_one] at c20
                          have HB2 := Lib.hid hb2
                          have HSS : Hid ((fun W : World => StAt W (ad.add (k2 * 9)) sk ∧ StAt W (ad6.add (jj * 9)) sm ∧ W.cell? (ad2.add k2) = some (.bool b2)) wr.drew) := Lib.hid ⟨HK.out.2.2, HMA.out.later hbk.out.drew, c20⟩
                          clear hc20 hb2 c20
                          go_wp2_with fail
                          refine wp_region_s (fun W : World => StAt W (ad.add (k2 * 9)) sk ∧ StAt W (ad6.add (jj * 9)) sm ∧ W.cell? (ad2.add k2) = some (.bool b2)) [(0, true), (1, true), (2, true), (3, true), (6, true), (7, true), (8, true), (9, true), (4, true), (10, true), (5, false), (11, false), (12, true), (13, true), (14, true), (15, true), (16, true), (17, true), (18, true), (19, true), (20, true), (21, true), (22, true), (23, true), (24, true)] (by kernel_rfl) (fun _ d _ _ _ h => by cases d <;> exact h) ?_
                          simp only [List.map_cons, List.map_nil, nthOp_zero, nthOp_succ]
                          generalize wr.drew = w8 at *
                          refine wpS_take HSS (by kernel_rfl) (by intro W hW; clear hW; go_simp; try with_reducible rfl) ?_
                          refine wpS_take HSS (by kernel_rfl) (by intro W hW; clear hW; go_simp; try with_reducible rfl) ?_
                          refine wpS_take HSS (by kernel_rfl) (by intro W hW; clear hW; go_simp; try with_reducible rfl) ?_
                          refine wpS_take HSS (by kernel_rfl) (by intro W hW; clear hW; go_simp; try with_reducible rfl) ?_
                          refine wpS_take HSS (by kernel_rfl) (by intro W hW; clear hW; go_simp; try with_reducible rfl) ?_
                          refine wpS_take HSS (by kernel_rfl) (by intro W hW; clear hW; go_simp; try with_reducible rfl) ?_
                          refine wpS_take HSS (by kernel_rfl) (by intro W hW; clear hW; go_simp; try with_reducible rfl) ?_
                          refine wpS_take HSS (by kernel_rfl) (by intro W hW; clear hW; go_simp; try with_reducible rfl) ?_
                          refine wpS_take HSS (by rfl) (by intro W hW; obtain ⟨q0, q1, q2, q3, q4, q5, q6, q7, q8⟩ := hW.1; clear hW; go_simp; try with_reducible rfl) ?_
                          refine wpS_take HSS (by rfl) (by intro W hW; obtain ⟨q0, q1, q2, q3, q4, q5, q6, q7, q8⟩ := hW.2.1; clear hW; go_simp; try with_reducible rfl) ?_
                          refine wpS_do fun K hK => ?_
                          go_wp2_with fail
                          refine (ref14Key_any sk.h _).mono ?_
                          rintro e w9 ⟨rfl, hb⟩
                          have HSS9 : Hid ((fun W : World => StAt W (ad.add (k2 * 9)) sk ∧ StAt W (ad6.add (jj * 9)) sm ∧ W.cell? (ad2.add k2) = some (.bool b2)) w9) := Lib.hid ⟨HSS.out.1.later hb, HSS.out.2.1.later hb, (hb.cell (cell_lt HSS.out.2.2)).trans HSS.out.2.2⟩
                          have HB9 := Lib.hid (below_then hbk2.out hb)
                          clear hb HSS hbk2
                          go_wp2_with fail
                          refine hK.out _ _ HSS9.out ?_
                          clear hK K
                          refine wpS_do fun K hK => ?_
                          go_wp2_with fail
                          refine (ref14Key_any sm.h _).mono ?_
                          rintro e w10 ⟨rfl, hb⟩
                          have HSS10 : Hid ((fun W : World => StAt W (ad.add (k2 * 9)) sk ∧ StAt W (ad6.add (jj * 9)) sm ∧ W.cell? (ad2.add k2) = some (.bool b2)) w10) := Lib.hid ⟨HSS9.out.1.later hb, HSS9.out.2.1.later hb, (hb.cell (cell_lt HSS9.out.2.2)).trans HSS9.out.2.2⟩
                          have HB10 := Lib.hid (below_then HB9.out hb)
                          clear hb HSS9 HB9
                          go_wp2_with fail
                          refine hK.out _ _ HSS10.out ?_
                          clear hK K
                          refine wpS_take HSS10 (by rfl) (fun W hW => exec_key_eq rfl sk.h.key sm.h.key rfl rfl W) ?_
                          by_cases hkk : sk.h.key = sm.h.key
                          · rw [decide_eq_true hkk]
                            go_simp
                            refine wpS_take HSS10 (by kernel_rfl) (by intro W hW; clear hW; go_simp; try with_reducible rfl) ?_
                            go_simp
                            have HCF : Hid (confAt bs k2 = false) := Lib.hid (by
                              obtain ⟨m, s0, e1, e2, e3⟩ := HIN.out sm (List.mem_of_getElem? HM.out)
                              have e4 : s0.h = sm.h := by injection e2
                              have : m = k2 := nodup_at hnd.out e1 HK.out.1 (by rw [SE.key, SE.key, e4]; exact hkk.symm)
                              rw [← this]
                              exact e3)
                            clear hkk
                            have hb2 : b2 = false := by have h1 := HCF.out; unfold confAt at h1; rw [HB2.out] at h1; exact h1
                            subst hb2
                            refine wpS_take HSS10 (by kernel_rfl) (by intro W hW; clear hW; go_simp; try with_reducible rfl) ?_
                            refine wpS_take HSS10 (by kernel_rfl) (by intro W hW; clear hW; go_simp; try with_reducible rfl) ?_
                            refine wpS_take HSS10 (by kernel_rfl) (by intro W hW; clear hW; go_simp; try with_reducible rfl) ?_
                            refine wpS_take HSS10 (by kernel_rfl) (by intro W hW; clear hW; go_simp; try with_reducible rfl) ?_
                            refine wpS_take HSS10 (by kernel_rfl) (by intro W hW; clear hW; go_simp; try with_reducible rfl) ?_
                            go_simp
                            refine wpS_take HSS10 (by kernel_rfl) (by intro W hW; clear hW; go_simp; try with_reducible rfl) ?_
                            refine wpS_take HSS10 (by kernel_rfl) (by intro W hW; clear hW; go_simp; try with_reducible rfl) ?_
                            refine wpS_take HSS10 (by kernel_rfl) (by intro W hW; clear hW; go_simp; try with_reducible rfl) ?_
                            refine wpS_take HSS10 (by kernel_rfl) (by intro W hW; clear hW; go_simp; try with_reducible rfl) ?_
                            go_simp
                            refine wpS_take HSS10 (by kernel_rfl) (by intro W hW; have q0 := hW.2.2; clear hW; go_simp; try with_reducible rfl) ?_
                            refine wpS_take HSS10 (by kernel_rfl) (by intro W hW; clear hW; go_simp; try with_reducible rfl) ?_
                            refine wpS_nil ?_
                            go_simp
                            go_wp2_with fail
                            go_roundw
                            case rel => exact ⟨k2 + 1, by go_num, by omega, HB10⟩
                            case measure => simp [intOf]; omega
                          · rw [decide_eq_false hkk]
                            go_simp
                            refine wpS_take HSS10 (by kernel_rfl) (by intro W hW; clear hW; go_simp; try with_reducible rfl) ?_
                            go_simp
                            clear hkk
                            refine wpS_skip HSS10 (by kernel_rfl) ?_
                            refine wpS_skip HSS10 (by kernel_rfl) ?_
                            refine wpS_skip HSS10 (by kernel_rfl) ?_
                            refine wpS_skip HSS10 (by kernel_rfl) ?_
                            go_simp
                            refine wpS_take HSS10 (by kernel_rfl) (by intro W hW; clear hW; go_simp; try with_reducible rfl) ?_
                            refine wpS_take HSS10 (by kernel_rfl) (by intro W hW; clear hW; go_simp; try with_reducible rfl) ?_
                            go_simp
                            refine wpS_skip HSS10 (by kernel_rfl) ?_
                            refine wpS_skip HSS10 (by kernel_rfl) ?_
                            refine wpS_skip HSS10 (by kernel_rfl) ?_
                            refine wpS_skip HSS10 (by kernel_rfl) ?_
                            go_simp
                            refine wpS_take HSS10 (by kernel_rfl) (by intro W hW; clear hW; go_simp; try with_reducible rfl) ?_
                            refine wpS_nil ?_
                            go_simp
                            go_wp2_with fail
                            go_roundw
                            case rel => exact ⟨k2 + 1, by go_num, by omega, HB10⟩
                            case measure => simp [intOf]; omega
                        · have HSS : Hid ((fun W : World => StAt W (ad.add (k2 * 9)) sk ∧ StAt W (ad6.add (jj * 9)) sm ∧ Hid True) wr.drew) := Lib.hid ⟨HK.out.2.2, HMA.out.later hbk.out.drew, Lib.hid trivial⟩
                          go_wp2_with fail
                          refine wp_region_s (fun W : World => StAt W (ad.add (k2 * 9)) sk ∧ StAt W (ad6.add (jj * 9)) sm ∧ Hid True) [(0, true), (1, true), (2, true), (3, true), (6, true), (7, true), (8, true), (9, true), (4, true), (10, true), (5, false), (11, false), (12, true), (13, true), (14, true), (15, true), (16, true), (17, true), (18, true), (19, true), (20, true), (21, true), (22, true), (23, true), (24, true)] (by kernel_rfl) (fun _ d _ _ _ h => by cases d <;> exact h) ?_
                          simp only [List.map_cons, List.map_nil, nthOp_zero, nthOp_succ]
                          generalize wr.drew = w8 at *
                          refine wpS_take HSS (by kernel_rfl) (by intro W hW; clear hW; go_simp; try with_reducible rfl) ?_
                          refine wpS_take HSS (by kernel_rfl) (by intro W hW; clear hW; go_simp; try with_reducible rfl) ?_
                          refine wpS_take HSS (by kernel_rfl) (by intro W hW; clear hW; go_simp; try with_reducible rfl) ?_
                          refine wpS_take HSS (by kernel_rfl) (by intro W hW; clear hW; go_simp; try with_reducible rfl) ?_
                          refine wpS_take HSS (by kernel_rfl) (by intro W hW; clear hW; go_simp; try with_reducible rfl) ?_
                          refine wpS_take HSS (by kernel_rfl) (by intro W hW; clear hW; go_simp; try with_reducible rfl) ?_
                          refine wpS_take HSS (by kernel_rfl) (by intro W hW; clear hW; go_simp; try with_reducible rfl) ?_
                          refine wpS_take HSS (by kernel_rfl) (by intro W hW; clear hW; go_simp; try with_reducible rfl) ?_
                          refine wpS_take HSS (by rfl) (by intro W hW; obtain ⟨q0, q1, q2, q3, q4, q5, q6, q7, q8⟩ := hW.1; clear hW; go_simp; try with_reducible rfl) ?_
                          refine wpS_take HSS (by rfl) (by intro W hW; obtain ⟨q0, q1, q2, q3, q4, q5, q6, q7, q8⟩ := hW.2.1; clear hW; go_simp; try with_reducible rfl) ?_
                          refine wpS_do fun K hK => ?_
                          go_wp2_with fail
                          refine (ref14Key_any sk.h _).mono ?_
                          rintro e w9 ⟨rfl, hb⟩
                          have HSS9 : Hid ((fun W : World => StAt W (ad.add (k2 * 9)) sk ∧ StAt W (ad6.add (jj * 9)) sm ∧ Hid True) w9) := Lib.hid ⟨HSS.out.1.later hb, HSS.out.2.1.later hb, Lib.hid trivial⟩
                          have HB9 := Lib.hid (below_then hbk2.out hb)
                          clear hb HSS hbk2
                          go_wp2_with fail
                          refine hK.out _ _ HSS9.out ?_
                          clear hK K
                          refine wpS_do fun K hK => ?_
                          go_wp2_with fail
                          refine (ref14Key_any sm.h _).mono ?_
                          rintro e w10 ⟨rfl, hb⟩
                          have HSS10 : Hid ((fun W : World => StAt W (ad.add (k2 * 9)) sk ∧ StAt W (ad6.add (jj * 9)) sm ∧ Hid True) w10) := Lib.hid ⟨HSS9.out.1.later hb, HSS9.out.2.1.later hb, Lib.hid trivial⟩
                          have HB10 := Lib.hid (below_then HB9.out hb)
                          clear hb HSS9 HB9
                          go_wp2_with fail
                          refine hK.out _ _ HSS10.out ?_
                          clear hK K
                          refine wpS_take HSS10 (by rfl) (fun W hW => exec_key_eq rfl sk.h.key sm.h.key rfl rfl W) ?_
                          by_cases hkk : sk.h.key = sm.h.key
                          · rw [decide_eq_true hkk]
                            go_simp
                            refine wpS_take HSS10 (by kernel_rfl) (by intro W hW; clear hW; go_simp; try with_reducible rfl) ?_
                            go_simp
                            have HCF : Hid (confAt bs k2 = false) := Lib.hid (by
                              obtain ⟨m, s0, e1, e2, e3⟩ := HIN.out sm (List.mem_of_getElem? HM.out)
                              have e4 : s0.h = sm.h := by injection e2
                              have : m = k2 := nodup_at hnd.out e1 HK.out.1 (by rw [SE.key, SE.key, e4]; exact hkk.symm)
                              rw [← this]
                              exact e3)
                            clear hkk
                            refine wpS_take HSS10 (by kernel_rfl) (by intro W hW; clear hW; go_simp; try with_reducible rfl) ?_
                            refine wpS_take HSS10 (by kernel_rfl) (by intro W hW; clear hW; go_simp; try with_reducible rfl) ?_
                            refine wpS_take HSS10 (by kernel_rfl) (by intro W hW; clear hW; go_simp; try with_reducible rfl) ?_
                            refine wpS_take HSS10 (by kernel_rfl) (by intro W hW; clear hW; go_simp; try with_reducible rfl) ?_
                            refine wpS_take HSS10 (by kernel_rfl) (by intro W hW; clear hW; go_simp; try with_reducible rfl) ?_
                            go_simp
                            refine wpS_take HSS10 (by kernel_rfl) (by intro W hW; clear hW; go_simp; try with_reducible rfl) ?_
                            go_simp
                            refine wpS_skip HSS10 (by kernel_rfl) ?_
                            refine wpS_skip HSS10 (by kernel_rfl) ?_
                            refine wpS_skip HSS10 (by kernel_rfl) ?_
                            refine wpS_skip HSS10 (by kernel_rfl) ?_
                            go_simp
                            refine wpS_take HSS10 (by kernel_rfl) (by intro W hW; clear hW; go_simp; try with_reducible rfl) ?_
                            refine wpS_nil ?_
                            go_simp
                            go_wp2_with fail
                            go_roundw
                            case rel => exact ⟨k2 + 1, by go_num, by omega, HB10⟩
                            case measure => simp [intOf]; omega
                          · rw [decide_eq_false hkk]
                            go_simp
                            refine wpS_take HSS10 (by kernel_rfl) (by intro W hW; clear hW; go_simp; try with_reducible rfl) ?_
                            go_simp
                            clear hkk
                            refine wpS_skip HSS10 (by kernel_rfl) ?_
                            refine wpS_skip HSS10 (by kernel_rfl) ?_
                            refine wpS_skip HSS10 (by kernel_rfl) ?_
                            refine wpS_skip HSS10 (by kernel_rfl) ?_
                            go_simp
                            refine wpS_take HSS10 (by kernel_rfl) (by intro W hW; clear hW; go_simp; try with_reducible rfl) ?_
                            refine wpS_take HSS10 (by kernel_rfl) (by intro W hW; clear hW; go_simp; try with_reducible rfl) ?_
                            go_simp
                            refine wpS_skip HSS10 (by kernel_rfl) ?_
                            refine wpS_skip HSS10 (by kernel_rfl) ?_
                            refine wpS_skip HSS10 (by kernel_rfl) ?_
                            refine wpS_skip HSS10 (by kernel_rfl) ?_
                            go_simp
                            refine wpS_take HSS10 (by kernel_rfl) (by intro W hW; clear hW; go_simp; try with_reducible rfl) ?_
                            refine wpS_nil ?_
                            go_simp
                            go_wp2_with fail
                            go_roundw
                            case rel => exact ⟨k2 + 1, by go_num, by omega, HB10⟩
                            case measure => simp [intOf]; omega
                      · obtain rfl : k2 = i := by omega
                        go_wp2_with fail
                        go_roundw
                        case rel => exact ⟨jj + 1, by go_num, by omega, Lib.hid (below_then hbj.out hbk.out)⟩
                        case measure => simp [intOf]; omega
                  · obtain rfl : jj = N := by omega
                    go_wp2_with fail
                    go_roundw
                    case rel => exact ⟨⟨k + 1, t2, by go_num, by omega, ht2.1, ht2.2, HDV, Lib.hid (by obtain ⟨t0, e1, e2⟩ := HLT.out; exact ⟨t0, e1.later hbj.out, e2⟩)⟩, Lib.hid (below_then HW6.out hbj.out)⟩
                    case measure => simp [intOf]; omega
              · have hl := hl0 ht
                have e0 : ¬ ((k : Int) + 1) % r = 0 := fun h => ht (hmod.1 h)
                have m1 : (((k : Int) + 1) % r == 0) = false := by rw [beq_eq_false_iff_ne]; exact e0
                have m2 : (((k : Int) + 1) % r != 0) = true := by rw [bne_iff_ne]; exact e0
                have m3 : ((N : Int) != 0) = false := by rw [← hN, hl]; rfl
                clear hN hl1 hl0 hmod e0 ht hl
                generalize (if t = 1 then r else t - 1) = t2 at *
                go_wp2_with fail
                clear htm m1 m2 m3
                go_loopw [15] (AlRel w6 N) (fun t _ => N - (intOf t).toNat)
                case atStart => exact ⟨0, rfl, Nat.zero_le _, Lib.hid (Below.refl _ _)⟩
                case round =>
                  clear hbr
                  obtain ⟨jj, rfl, hjN, hbj⟩ := hrel
                  by_cases hjl : jj < N
                  · have hjI : (jj : Int) < N := by omega
                    obtain ⟨ad6, sm, hA6, hb6, hsm, q0, qj⟩ := rowG_at cells_len ((HRD.out.below hbj.out).more hbj.out.size) HML.out hjl
                    subst hA6
                    have HM := Lib.hid hsm
                    have HMA : Hid (StAt wr (ad6.add (jj * 9)) sm) := Lib.hid ⟨q0 _ rfl, qj 1 _ (by decide) rfl, qj 2 _ (by decide) rfl, qj 3 _ (by decide) rfl, qj 4 _ (by decide) rfl, qj 5 _ (by decide) rfl, qj 6 _ (by decide) rfl, qj 7 _ (by decide) rfl, qj 8 _ (by decide) rfl⟩
                    clear hsm q0 qj
                    go_wp2_with fail
                    generalize wr = wk at *
                    go_loopw [16] (AlRel wk i) (fun t _ => i - (intOf t).toNat)
                    case atStart => exact ⟨0, rfl, Nat.zero_le _, Lib.hid (Below.refl _ _)⟩
                    case round =>
                      obtain ⟨k2, rfl, hkN, hbk⟩ := hrel
                      by_cases hkl2 : k2 < i
                      · have hkI : (k2 : Int) < i := by omega
                        have HLk := Lib.hid (HL.out.later (below_then HW6.out (below_then hbj.out hbk.out)))
                        obtain ⟨ad, sk, hA', hadl', hsk, hokk, hatk⟩ := HLk.out.at_ (i := k2) hkl2
                        subst hA'
                        have HK := Lib.hid (And.intro hsk (And.intro hokk hatk))
                        clear hsk hokk hatk
                        have hbk2 : Hid (Below wk.heap.size wk wr.drew) := hbk.out.drew
                        by_cases hi2 : k2 < n2
                        · have hi2I : (k2 : Int) < n2 := by omega
                          obtain ⟨ad2, b2, hA2, had2, hb2, hc20, _⟩ := rowG_at (cs := fun b => [Value.bool b]) (k := 1) (fun _ => rfl) ((HBo.out.below (below_then HW6.out (below_then hbj.out hbk.out))).more (below_then HW6.out (below_then hbj.out hbk.out)).size) HBl.out hi2
                          subst hA2
                          have c20 := hc20 _ rfl
                          rw [Nat.mul_one] at c20
                          have HB2 := Lib.hid hb2
                          have HSS : Hid ((fun W : World => StAt W (ad.add (k2 * 9)) sk ∧ StAt W (ad6.add (jj * 9)) sm ∧ W.cell? (ad2.add k2) = some (.bool b2)) wr.drew) := Lib.hid ⟨HK.out.2.2, HMA.out.later hbk.out.drew, c20⟩
                          clear hc20 hb2 c20
                          go_wp2_with fail
                          refine wp_region_s (fun W : World => StAt W (ad.add (k2 * 9)) sk ∧ StAt W (ad6.add (jj * 9)) sm ∧ W.cell? (ad2.add k2) = some (.bool b2)) [(0, true), (1, true), (2, true), (3, true), (6, true), (7, true), (8, true), (9, true), (4, true), (10, true), (5, false), (11, false), (12, true), (13, true), (14, true), (15, true), (16, true), (17, true), (18, true), (19, true), (20, true), (21, true), (22, true), (23, true), (24, true)] (by kernel_rfl) (fun _ d _ _ _ h => by cases d <;> exact h) ?_
                          simp only [List.map_cons, List.map_nil, nthOp_zero, nthOp_succ]
                          generalize wr.drew = w8 at *
                          refine wpS_take HSS (by kernel_rfl) (by intro W hW; clear hW; go_simp; try with_reducible rfl) ?_
                          refine wpS_take HSS (by kernel_rfl) (by intro W hW; clear hW; go_simp; try with_reducible rfl) ?_
                          refine wpS_take HSS (by kernel_rfl) (by intro W hW; clear hW; go_simp; try with_reducible rfl) ?_
                          refine wpS_take HSS (by kernel_rfl) (by intro W hW; clear hW; go_simp; try with_reducible rfl) ?_
                          refine wpS_take HSS (by kernel_rfl) (by intro W hW; clear hW; go_simp; try with_reducible rfl) ?_
                          refine wpS_take HSS (by kernel_rfl) (by intro W hW; clear hW; go_simp; try with_reducible rfl) ?_
                          refine wpS_take HSS (by kernel_rfl) (by intro W hW; clear hW; go_simp; try with_reducible rfl) ?_
                          refine wpS_take HSS (by kernel_rfl) (by intro W hW; clear hW; go_simp; try with_reducible rfl) ?_
                          refine wpS_take HSS (by rfl) (by intro W hW; obtain ⟨q0, q1, q2, q3, q4, q5, q6, q7, q8⟩ := hW.1; clear hW; go_simp; try with_reducible rfl) ?_
                          refine wpS_take HSS (by rfl) (by intro W hW; obtain ⟨q0, q1, q2, q3, q4, q5, q6, q7, q8⟩ := hW.2.1; clear hW; go_simp; try with_reducible rfl) ?_
                          refine wpS_do fun K hK => ?_
                          go_wp2_with fail
                          refine (ref14Key_any sk.h _).mono ?_
                          rintro e w9 ⟨rfl, hb⟩
                          have HSS9 : Hid ((fun W : World => StAt W (ad.add (k2 * 9)) sk ∧ StAt W (ad6.add (jj * 9)) sm ∧ W.cell? (ad2.add k2) = some (.bool b2)) w9) := Lib.hid ⟨HSS.out.1.later hb, HSS.out.2.1.later hb, (hb.cell (cell_lt HSS.out.2.2)).trans HSS.out.2.2⟩
                          have HB9 := Lib.hid (below_then hbk2.out hb)
                          clear hb HSS hbk2
                          go_wp2_with fail
                          refine hK.out _ _ HSS9.out ?_
                          clear hK K
                          refine wpS_do fun K hK => ?_
                          go_wp2_with fail
                          refine (ref14Key_any sm.h _).mono ?_
                          rintro e w10 ⟨rfl, hb⟩
                          have HSS10 : Hid ((fun W : World => StAt W (ad.add (k2 * 9)) sk ∧ StAt W (ad6.add (jj * 9)) sm ∧ W.cell? (ad2.add k2) = some (.bool b2)) w10) := Lib.hid ⟨HSS9.out.1.later hb, HSS9.out.2.1.later hb, (hb.cell (cell_lt HSS9.out.2.2)).trans HSS9.out.2.2⟩
                          have HB10 := Lib.hid (below_then HB9.out hb)
                          clear hb HSS9 HB9
                          go_wp2_with fail
                          refine hK.out _ _ HSS10.out ?_
                          clear hK K
                          refine wpS_take HSS10 (by rfl) (fun W hW => exec_key_eq rfl sk.h.key sm.h.key rfl rfl W) ?_
                          by_cases hkk : sk.h.key = sm.h.key
                          · rw [decide_eq_true hkk]
                            go_simp
                            refine wpS_take HSS10 (by kernel_rfl) (by intro W hW; clear hW; go_simp; try with_reducible rfl) ?_
                            go_simp
                            have HCF : Hid (confAt bs k2 = false) := Lib.hid (by
                              obtain ⟨m, s0, e1, e2, e3⟩ := HIN.out sm (List.mem_of_getElem? HM.out)
                              have e4 : s0.h = sm.h := by injection e2
                              have : m = k2 := nodup_at hnd.out e1 HK.out.1 (by rw [SE.key, SE.key, e4]; exact hkk.symm)
                              rw [← this]
                              exact e3)
                            clear hkk
                            have hb2 : b2 = false := by have h1 := HCF.out; unfold confAt at h1; rw [HB2.out] at h1; exact h1
                            subst hb2
                            refine wpS_take HSS10 (by kernel_rfl) (by intro W hW; clear hW; go_simp; try with_reducible rfl) ?_
                            refine wpS_take HSS10 (by kernel_rfl) (by intro W hW; clear hW; go_simp; try with_reducible rfl) ?_
                            refine wpS_take HSS10 (by kernel_rfl) (by intro W hW; clear hW; go_simp; try with_reducible rfl) ?_
                            refine wpS_take HSS10 (by kernel_rfl) (by intro W hW; clear hW; go_simp; try with_reducible rfl) ?_
                            refine wpS_take HSS10 (by kernel_rfl) (by intro W hW; clear hW; go_simp; try with_reducible rfl) ?_
                            go_simp
                            refine wpS_take HSS10 (by kernel_rfl) (by intro W hW; clear hW; go_simp; try with_reducible rfl) ?_
                            refine wpS_take HSS10 (by kernel_rfl) (by intro W hW; clear hW; go_simp; try with_reducible rfl) ?_
                            refine wpS_take HSS10 (by kernel_rfl) (by intro W hW; clear hW; go_simp; try with_reducible rfl) ?_
                            refine wpS_take HSS10 (by kernel_rfl) (by intro W hW; clear hW; go_simp; try with_reducible rfl) ?_
                            go_simp
                            refine wpS_take HSS10 (by kernel_rfl) (by intro W hW; have q0 := hW.2.2; clear hW; go_simp; try with_reducible rfl) ?_
                            refine wpS_take HSS10 (by kernel_rfl) (by intro W hW; clear hW; go_simp; try with_reducible rfl) ?_
                            refine wpS_nil ?_
                            go_simp
                            go_wp2_with fail
                            go_roundw
                            case rel => exact ⟨k2 + 1, by go_num, by omega, HB10⟩
                            case measure => simp [intOf]; omega
                          · rw [decide_eq_false hkk]
                            go_simp
                            refine wpS_take HSS10 (by kernel_rfl) (by intro W hW; clear hW; go_simp; try with_reducible rfl) ?_
                            go_simp
                            clear hkk
                            refine wpS_skip HSS10 (by kernel_rfl) ?_
                            refine wpS_skip HSS10 (by kernel_rfl) ?_
                            refine wpS_skip HSS10 (by kernel_rfl) ?_
                            refine wpS_skip HSS10 (by kernel_rfl) ?_
                            go_simp
                            refine wpS_take HSS10 (by kernel_rfl) (by intro W hW; clear hW; go_simp; try with_reducible rfl) ?_
                            refine wpS_take HSS10 (by kernel_rfl) (by intro W hW; clear hW; go_simp; try with_reducible rfl) ?_
                            go_simp
                            refine wpS_skip HSS10 (by kernel_rfl) ?_
                            refine wpS_skip HSS10 (by kernel_rfl) ?_
                            refine wpS_skip HSS10 (by kernel_rfl) ?_
                            refine wpS_skip HSS10 (by kernel_rfl) ?_
                            go_simp
                            refine wpS_take HSS10 (by kernel_rfl) (by intro W hW; clear hW; go_simp; try with_reducible rfl) ?_
                            refine wpS_nil ?_
                            go_simp
                            go_wp2_with fail
                            go_roundw
                            case rel => exact ⟨k2 + 1, by go_num, by omega, HB10⟩
                            case measure => simp [intOf]; omega
                        · have HSS : Hid ((fun W : World => StAt W (ad.add (k2 * 9)) sk ∧ StAt W (ad6.add (jj * 9)) sm ∧ Hid True) wr.drew) := Lib.hid ⟨HK.out.2.2, HMA.out.later hbk.out.drew, Lib.hid trivial⟩
                          go_wp2_with fail
                          refine wp_region_s (fun W : World => StAt W (ad.add (k2 * 9)) sk ∧ StAt W (ad6.add (jj * 9)) sm ∧ Hid True) [(0, true), (1, true), (2, true), (3, true), (6, true), (7, true), (8, true), (9, true), (4, true), (10, true), (5, false), (11, false), (12, true), (13, true), (14, true), (15, true), (16, true), (17, true), (18, true), (19, true), (20, true), (21, true), (22, true), (23, true), (24, true)] (by kernel_rfl) (fun _ d _ _ _ h => by cases d <;> exact h) ?_
                          simp only [List.map_cons, List.map_nil, nthOp_zero, nthOp_succ]
                          generalize wr.drew = w8 at *
                          refine wpS_take HSS (by kernel_rfl) (by intro W hW; clear hW; go_simp; try with_reducible rfl) ?_
                          refine wpS_take HSS (by kernel_rfl) (by intro W hW; clear hW; go_simp; try with_reducible rfl) ?_
                          refine wpS_take HSS (by kernel_rfl) (by intro W hW; clear hW; go_simp; try with_reducible rfl) ?_
                          refine wpS_take HSS (by kernel_rfl) (by intro W hW; clear hW; go_simp; try with_reducible rfl) ?_
                          refine wpS_take HSS (by kernel_rfl) (by intro W hW; clear hW; go_simp; try with_reducible rfl) ?_
                          refine wpS_take HSS (by kernel_rfl) (by intro W hW; clear hW; go_simp; try with_reducible rfl) ?_
                          refine wpS_take HSS (by kernel_rfl) (by intro W hW; clear hW; go_simp; try with_reducible rfl) ?_
                          refine wpS_take HSS (by kernel_rfl) (by intro W hW; clear hW; go_simp; try with_reducible rfl) ?_
                          refine wpS_take HSS (by rfl) (by intro W hW; obtain ⟨q0, q1, q2, q3, q4, q5, q6, q7, q8⟩ := hW.1; clear hW; go_simp; try with_reducible rfl) ?_
                          refine wpS_take HSS (by rfl) (by intro W hW; obtain ⟨q0, q1, q2, q3, q4, q5, q6, q7, q8⟩ := hW.2.1; clear hW; go_simp; try with_reducible rfl) ?_
                          refine wpS_do fun K hK => ?_
                          go_wp2_with fail
                          refine (ref14Key_any sk.h _).mono ?_
                          rintro e w9 ⟨rfl, hb⟩
                          have HSS9 : Hid ((fun W : World => StAt W (ad.add (k2 * 9)) sk ∧ StAt W (ad6.add (jj * 9)) sm ∧ Hid True) w9) := Lib.hid ⟨HSS.out.1.later hb, HSS.out.2.1.later hb, Lib.hid trivial⟩
                          have HB9 := Lib.hid (below_then hbk2.out hb)
                          clear hb HSS hbk2
                          go_wp2_with fail
                          refine hK.out _ _ HSS9.out ?_
                          clear hK K
                          refine wpS_do fun K hK => ?_
                          go_wp2_with fail
                          refine (ref14Key_any sm.h _).mono ?_
                          rintro e w10 ⟨rfl, hb⟩
                          have HSS10 : Hid ((fun W : World => StAt W (ad.add (k2 * 9)) sk ∧ StAt W (ad6.add (jj * 9)) sm ∧ Hid True) w10) := Lib.hid ⟨HSS9.out.1.later hb, HSS9.out.2.1.later hb, Lib.hid trivial⟩
                          have HB10 := Lib.hid (below_then HB9.out hb)
                          clear hb HSS9 HB9
                          go_wp2_with fail
                          refine hK.out _ _ HSS10.out ?_
                          clear hK K
                          refine wpS_take HSS10 (by rfl) (fun W hW => exec_key_eq rfl sk.h.key sm.h.key rfl rfl W) ?_
                          by_cases hkk : sk.h.key = sm.h.key
                          · rw [decide_eq_true hkk]
                            go_simp
                            refine wpS_take HSS10 (by kernel_rfl) (by intro W hW; clear hW; go_simp; try with_reducible rfl) ?_
                            go_simp
                            have HCF : Hid (confAt bs k2 = false) := Lib.hid (by
                              obtain ⟨m, s0, e1, e2, e3⟩ := HIN.out sm (List.mem_of_getElem? HM.out)
                              have e4 : s0.h = sm.h := by injection e2
                              have : m = k2 := nodup_at hnd.out e1 HK.out.1 (by rw [SE.key, SE.key, e4]; exact hkk.symm)
                              rw [← this]
                              exact e3)
                            clear hkk
                            refine wpS_take HSS10 (by kernel_rfl) (by intro W hW; clear hW; go_simp; try with_reducible rfl) ?_
                            refine wpS_take HSS10 (by kernel_rfl) (by intro W hW; clear hW; go_simp; try with_reducible rfl) ?_
                            refine wpS_take HSS10 (by kernel_rfl) (by intro W hW; clear hW; go_simp; try with_reducible rfl) ?_
                            refine wpS_take HSS10 (by kernel_rfl) (by intro W hW; clear hW; go_simp; try with_reducible rfl) ?_
                            refine wpS_take HSS10 (by kernel_rfl) (by intro W hW; clear hW; go_simp; try with_reducible rfl) ?_
                            go_simp
                            refine wpS_take HSS10 (by kernel_rfl) (by intro W hW; clear hW; go_simp; try with_reducible rfl) ?_
                            go_simp
                            refine wpS_skip HSS10 (by kernel_rfl) ?_
                            refine wpS_skip HSS10 (by kernel_rfl) ?_
                            refine wpS_skip HSS10 (by kernel_rfl) ?_
                            refine wpS_skip HSS10 (by kernel_rfl) ?_
                            go_simp
                            refine wpS_take HSS10 (by kernel_rfl) (by intro W hW; clear hW; go_simp; try with_reducible rfl) ?_
                            refine wpS_nil ?_
                            go_simp
                            go_wp2_with fail
                            go_roundw
                            case rel => exact ⟨k2 + 1, by go_num, by omega, HB10⟩
                            case measure => simp [intOf]; omega
                          · rw [decide_eq_false hkk]
                            go_simp
                            refine wpS_take HSS10 (by kernel_rfl) (by intro W hW; clear hW; go_simp; try with_reducible rfl) ?_
                            go_simp
                            clear hkk
                            refine wpS_skip HSS10 (by kernel_rfl) ?_
                            refine wpS_skip HSS10 (by kernel_rfl) ?_
                            refine wpS_skip HSS10 (by kernel_rfl) ?_
                            refine wpS_skip HSS10 (by kernel_rfl) ?_
                            go_simp
                            refine wpS_take HSS10 (by kernel_rfl) (by intro W hW; clear hW; go_simp; try with_reducible rfl) ?_
                            refine wpS_take HSS10 (by kernel_rfl) (by intro W hW; clear hW; go_simp; try with_reducible rfl) ?_
                            go_simp
                            refine wpS_skip HSS10 (by kernel_rfl) ?_
                            refine wpS_skip HSS10 (by kernel_rfl) ?_
                            refine wpS_skip HSS10 (by kernel_rfl) ?_
                            refine wpS_skip HSS10 (by kernel_rfl) ?_
                            go_simp
                            refine wpS_take HSS10 (by kernel_rfl) (by intro W hW; clear hW; go_simp; try with_reducible rfl) ?_
                            refine wpS_nil ?_
                            go_simp
                            go_wp2_with fail
                            go_roundw
                            case rel => exact ⟨k2 + 1, by go_num, by omega, HB10⟩
                            case measure => simp [intOf]; omega
                      · obtain rfl : k2 = i := by omega
                        go_wp2_with fail
                        go_roundw
                        case rel => exact ⟨jj + 1, by go_num, by omega, Lib.hid (below_then hbj.out hbk.out)⟩
                        case measure => simp [intOf]; omega
                  · obtain rfl : jj = N := by omega
                    go_wp2_with fail
                    go_roundw
                    case rel => exact ⟨⟨k + 1, t2, by go_num, by omega, ht2.1, ht2.2, HDV, Lib.hid (by obtain ⟨t0, e1, e2⟩ := HLT.out; exact ⟨t0, e1.later hbj.out, e2⟩)⟩, Lib.hid (below_then HW6.out hbj.out)⟩
                    case measure => simp [intOf]; omega
            · go_wp2_with (go_at_call 10; refine (works_any _).mono ?_; rintro e w7 ⟨rfl, hb⟩; have H7 := Lib.hid hb; clear hb)
              go_ret
              exact ⟨rfl, below_then hbr.out H7.out⟩
end Go.Proofs.Ytjkmehpokdaonaa
