/-
  AuthOpens, walked.
-/
import Derived.Test.YtkgdeneonobibaaAutO2
import Derived.Test.YtkgdeneonobibaaAut14
import Derived.Test.YtkgdeneonobibaaAut18
import Derived.Test.YtkgdeneonobibaaAut19
namespace Go.Proofs.Ytkgdeneonobibaa
set_option linter.unusedVariables false
open Go.RowKit

theorem pair_of {W : World} {b : Nat} {L L' : List AK} (h : WdAll W b L L') (hl : L'.length = L.length) : L'.map (fun k => (k.core, k.bs)) = L.map (fun k => (k.core, k.bs)) := by
  refine List.ext_getElem? fun i => ?_
  rw [List.getElem?_map, List.getElem?_map]
  cases h1 : L'[i]? with
  | none =>
    have : L[i]? = none := by rw [List.getElem?_eq_none_iff] at h1 ⊢; omega
    rw [this]
  | some k' =>
    have hi := (List.getElem?_eq_some_iff.1 h1).1
    have h2 : L[i]? = some L[i] := List.getElem?_eq_getElem (by omega)
    have hw := h i _ _ h2 h1
    rw [h2]
    simp only [Option.map_some]
    unfold AK.core
    rw [hw.id, hw.kind, hw.n, hw.sf, hw.su, hw.tf, hw.tu, hw.bs]
theorem any_pair {L L' : List AK} (h : L'.map (fun k => (k.core, k.bs)) = L.map (fun k => (k.core, k.bs))) (p : AK → Bool) (q : (Int × Int × Nat × Int × Int × Int × Int) × List Int → Bool) (hp : ∀ k, p k = q (k.core, k.bs)) : L'.any p = L.any p := by
  have e : ∀ M : List AK, M.any p = (M.map (fun k => (k.core, k.bs))).any q := fun M => by
    rw [List.any_map]
    congr 1
    funext k
    exact hp k
  rw [e, e, h]
theorem open_alike {L L' : List AK} (xs : List Int) (now : Int) (h : L'.map (fun k => (k.core, k.bs)) = L.map (fun k => (k.core, k.bs))) : openOf xs L' now = openOf xs L now := by
  have hc : L'.map AK.core = L.map AK.core := by
    have := congrArg (List.map Prod.fst) h
    simpa [List.map_map, Function.comp_def] using this
  have hl : L'.length = L.length := by have := congrArg List.length h; simpa using this
  have h1 : L'.any (pwB xs now) = L.any (pwB xs now) := any_pair h (pwB xs now) (fun p => (decide (p.1.2.2.2.2.2.1 ≤ now) && decide (now ≤ p.1.2.2.2.2.2.2)) && decide (pw p.2 = (xs.drop 16).take 8)) fun k => rfl
  have h2 : ∀ N, L'.any (dgB xs N now) = L.any (dgB xs N now) := fun N => any_pair h (dgB xs N now) (fun p => (p.1.1 == xs.getD 18 0) && ((decide (p.1.2.2.2.2.2.1 ≤ now) && decide (now ≤ p.1.2.2.2.2.2.2)) && decide (md (xs.take N ++ key16 p.2) = xs.drop N))) fun k => rfl
  unfold openOf digOf
  rw [hl, core_check hc, core_kind0 hc, h1, h2]
theorem wide_reads {w w1 : World} {xs : List Int} {n : Nat} {e : Ending} (hl : xs.length = n) (h : WideAt w w1 xs e) :
    ∃ g, e = .returned (.slice (some ⟨g, 0, none⟩) n (n + 64)) ∧ Reads w1 w1.heap.size 1 (some ⟨g, 0, none⟩) (n + 64) (u8s (wide xs)) ∧ Reads w1 w1.heap.size 1 (some ⟨g, 0, none⟩) n (u8s xs) ∧ Below w.heap.size w w1 := by
  obtain ⟨g, he, hg, hblk, hb1⟩ := h
  subst hl
  have hlw : (u8s (wide xs)).length = xs.length + 64 := by rw [u8s_length, wide_length]
  have hr1 : Reads w1 w1.heap.size 1 (some ⟨g, 0, none⟩) (xs.length + 64) (u8s (wide xs)) := by
    have := hblk.reads (n := xs.length + 64) (by omega)
    rw [List.take_of_length_le (by omega)] at this
    exact this.more hblk.lt
  refine ⟨g, he, hr1, ?_, hb1⟩
  have := hr1.u8pre (k := xs.length) (by omega)
  rwa [wide_take xs] at this
/-- All that the law's walk keeps. -/
structure OF (w W : World) (B A A' : Option Addr) (bn n g b : Nat) (xs : List Int) (L L' : List AK) : Prop where
  x : Reads W W.heap.size 1 B bn (u8s xs)
  y : Reads W W.heap.size 1 (some ⟨g, 0, none⟩) bn (u8s xs)
  wd : Reads W W.heap.size 1 (some ⟨g, 0, none⟩) (bn + 64) (u8s (wide xs))
  k : Keys W A n L
  k' : Keys W A' n L'
  al : WdAll W b L L'
  bel : Below w.heap.size w W
theorem OF.later {w W W' : World} {B A A' : Option Addr} {bn n g b : Nat} {xs : List Int} {L L' : List AK} (h : OF w W B A A' bn n g b xs L L') (hb : Below W.heap.size W W') : OF w W' B A A' bn n g b xs L L' :=
  ⟨h.x.later hb, h.y.later hb, h.wd.later hb, h.k.later hb, h.k'.later hb, fun q k k' h1 h2 => (h.al q k k' h1 h2).later hb, below_then h.bel hb⟩
set_option maxRecDepth 100000 in
set_option maxHeartbeats 2000000 in
theorem authOpens_walk (B A : Option Addr) (bn bc n c : Nat) (xs : List Int) (L : List AK) (now : Int) (w : World) (hx : Reads w w.heap.size 1 B bn (u8s xs)) (ho : Oct xs) (hbc : bn ≤ bc) (hbm : bc ≤ 9223372036854775807) (hbn : bn ≤ 140737488351232)
    (hL : Keys w A n L) (hc : n ≤ c) (hm : c ≤ 9223372036854775807) (hs : ∀ k ∈ L, k.n ≤ 140737488351232) :
    Calls Try.prog 4 #[.slice B bn bc, .slice A n c, .int .i64 now] w fun e w' => e = .returned (.bool true) ∧ Below w.heap.size w w' := by
  have HL := Lib.hid hL
  have HN := Lib.hid hs
  have HX := Lib.hid hx
  have HO := Lib.hid ho
  have hlx := Lib.hid hx.u8len
  clear hL hs hx ho
  go_enter Try.func4, Try.ntmps4
  go_wp2_with fail
  refine (heavy_any B A bn bc n c L w HL.out hbn HN.out (by omega)).mono ?_
  rintro e w' ⟨h, rfl, rfl, hh⟩
  have HH := Lib.hid hh
  clear hh
  cases h
  · obtain ⟨hb17, hn, hks⟩ := HH.out rfl
    have HKs := Lib.hid hks
    clear HH hks
    go_wp2_with fail
    refine (wideBytes_any B bn bc xs w HX.out (by omega)).mono ?_
    intro e w1 hw1
    obtain ⟨g1, he1, hW1, hX1, hb1⟩ := wide_reads hlx.out hw1
    subst he1
    have HW1 := Lib.hid hW1
    have HX1 := Lib.hid hX1
    have HB1 := Lib.hid hb1
    clear hw1 hW1 hX1 hb1
    go_wp2_with fail
    refine (given_any A n c L w1 (HL.out.later HB1.out) hn HKs.out).mono ?_
    rintro e w2 ⟨v, L', rfl, hl', hown, hw, hb⟩
    obtain ⟨A', c', rfl, hK', hc', hm'⟩ := keys_of_given ((HL.out.later HB1.out).later hb) HKs.out hl' hown hw
    have F2 : Hid (OF w w2 B A A' bn n g1 w1.heap.size xs L L') := ⟨HX.out.later (below_then HB1.out hb), HX1.out.later hb, HW1.out.later hb, (HL.out.later HB1.out).later hb, hK', hw, below_then HB1.out hb⟩
    have HP := Lib.hid (open_alike xs now (pair_of hw (hl'.trans HL.out.len.symm)))
    have HKs' : Hid (∀ k ∈ L', k.n ≤ 1099511627000) := fun k' hk' => by
      obtain ⟨i, hi⟩ := List.getElem?_of_mem hk'
      have hlt := (List.getElem?_eq_some_iff.1 hi).1
      obtain ⟨k, hk⟩ : ∃ k, L[i]? = some k := ⟨_, List.getElem?_eq_getElem (by rw [HL.out.len]; omega)⟩
      have h1 := (hw i _ _ hk hi).n
      have h2 := HKs.out k (List.mem_of_getElem? hk)
      rw [h1]; omega
    have HKl : Hid (∀ k ∈ L, k.n ≤ 1099511627000) := fun k hk => by have := HKs.out k hk; omega
    clear hb hown hw hK' HW1 HX1 HB1
    go_wp2_with fail
    have HC1 := Lib.hid (open_any (some ⟨g1, 0, none⟩) A' bn (bn + 64) n c' xs L' now w2 F2.out.y HO.out (by omega) (by omega) (by omega) F2.out.k' hc' hm' HKs'.out)
    rw [HP.out] at HC1
    generalize hp : openOf xs L now = p at *
    obtain ⟨p1, p2, p3⟩ := p
    refine HC1.out.mono ?_
    rintro e w3 ⟨rfl, hb⟩
    have F3 := Lib.hid (F2.out.later hb)
    clear hb F2 HC1
    go_wp2_with fail
    have HC2 := Lib.hid (refOpen_any B A bn bc n c xs L now w3 F3.out.x HO.out hbc hbm (by omega) F3.out.k hc hm HKl.out)
    rw [hp] at HC2
    refine HC2.out.mono ?_
    rintro e w4 ⟨rfl, hb⟩
    have F4 := Lib.hid (F3.out.later hb)
    clear hb F3 HC2 hp HP
    go_wp2_with fail
    have HC3 := Lib.hid (toBelow (eqBytes_any (some ⟨g1, 0, none⟩) B bn (bn + 64) bn bc xs xs w4 w4.heap.size w4.heap.size F4.out.y F4.out.x (by omega) (by omega)))
    rw [decide_eq_true (rfl : xs = xs)] at HC3
    refine HC3.out.mono ?_
    rintro e w5 ⟨rfl, hb⟩
    have F5 := Lib.hid (F4.out.later hb)
    clear hb F4 HC3
    go_wp2_with fail
    refine (toBelow (spareBytes_yes (some ⟨g1, 0, none⟩) bn (bn + 64) xs w5 w5.heap.size F5.out.wd hlx.out (Nat.le_refl _) (by omega))).mono ?_
    rintro e w6 ⟨rfl, hb⟩
    have F6 := Lib.hid (F5.out.later hb)
    clear hb F5
    go_wp2_with fail
    refine (toBelow (stays_any A A' n c c' w1.heap.size L L' w6 F6.out.k F6.out.k' F6.out.al hn HKs.out)).mono ?_
    rintro e w7 ⟨rfl, hb⟩
    have HB7 := Lib.hid (below_then F6.out.bel hb)
    clear hb F6
    go_wp2_with (go_at_call 10; refine (lives_any w7).mono ?_; rintro e w8 ⟨rfl, hb⟩; have HE := Lib.hid (below_then HB7.out hb); clear hb)
    go_ret
    exact ⟨rfl, HE.out⟩
  · go_wp2_with (go_at_call 10; refine (lives_any w).mono ?_; rintro e w7 ⟨rfl, hb⟩; have HE := Lib.hid hb; clear hb)
    go_ret
    exact ⟨rfl, HE.out⟩
end Go.Proofs.Ytkgdeneonobibaa
