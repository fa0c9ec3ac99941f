/-
  The queue: heap.Remove, Drop, When.
-/
import Derived.Test.YtgpgcjdbppehjaaNeq
namespace Go.Proofs.Ytgpgcjdbppehjaa
set_option linter.unusedVariables false
open Go.RowKit

/-- Without entry i. -/
def removeL (l : List Ent) (i n : Nat) : List Ent := if i = n then l.take n else (fixN (swapL l i n) i n).take n
where fixN (s : List Ent) (i n : Nat) : List Ent := if i < (downL s i n).2 then (downL s i n).1 else upL (downL s i n).1 i
theorem remove_heap {l : List Ent} (h : QI l) {n i : Nat} (hl : l.length = n + 1) (hi : i < n) :
    Same (swapL l i n) (removeL.fixN (swapL l i n) i n) ∧ (∀ k, n ≤ k → (removeL.fixN (swapL l i n) i n)[k]? = (swapL l i n)[k]?) ∧ Heap_ (removeL.fixN (swapL l i n) i n) n := by
  have hsl : (swapL l i n).length = n + 1 := by rw [swapL_len, hl]
  obtain ⟨hs, hk, _⟩ := down_same n _ i (swapL l i n) rfl (by omega) hi
  have hg : ∀ c, c ≠ i → c ≠ n → (swapL l i n)[c]? = l[c]? := fun c h1 h2 => by rw [swapL_get (by omega) (by omega)]; unfold swp; rw [if_neg h1, if_neg h2]
  obtain ⟨e, he⟩ : ∃ e, l[i]? = some e := ⟨_, List.getElem?_eq_getElem (by omega)⟩
  have hO : Over (swapL l i n) i n := by
    intro c x y hc hcn hp h0 hx hy
    have hpl := par_lt hc
    have hpi := par_lt h0
    rw [hg _ (by omega) (by omega)] at hx hy
    exact geE_trans (h.heap c x e hc (by omega) (fun h => h) hx (by rw [hp]; exact he)) (h.heap i e y h0 (by omega) (fun h => h) he hy)
  have key := down_heap n _ i (swapL l i n) False rfl (by omega) hi (fun c x y hc hcn hB hx hy => by
    have h1 : par c ≠ i := fun e => hB (.inl e)
    have h2 : c ≠ i := fun e => hB (.inr ⟨e, fun h => h⟩)
    have hpl := par_lt hc
    rw [hg _ h2 (by omega)] at hx
    rw [hg _ h1 (by omega)] at hy
    exact h.heap c x y hc (by omega) (fun h => h) hx hy) hO
  unfold removeL.fixN
  split
  · rcases key with ⟨k1, _⟩ | ⟨k1, k2⟩
    · omega
    · exact ⟨hs, hk, k2⟩
  · rcases key with ⟨k1, k2, k3⟩ | ⟨k1, k2⟩
    · obtain ⟨hu, hu2⟩ := up_same i (swapL l i n) (by omega)
      rw [k2]
      exact ⟨hu, fun k hk => hu2 k (by omega), up_heap n i _ (by omega) hi (fun c x y hc hcn hB hx hy => k3 c x y hc hcn (fun h => hB h.1) hx hy) hO⟩
    · omega
/-- What is left of a heap whose last, of the entries d, goes. -/
theorem cut_facts {l d : List Ent} {n : Nat} {z : Ent} (hd : Dist d) (hdl : d.length = n + 1) (hdn : d[n]? = some z) (hh : Heap_ d n) (hm : ∀ x, x ∈ d ↔ x ∈ l) : QI (d.take n) ∧ (∀ x, x ∈ d.take n ↔ x ∈ l ∧ x ≠ z) ∧ (d.take n).length = n := by
  have hlen : (d.take n).length = n := by rw [List.length_take, hdl]; omega
  have hget : ∀ c, c < n → (d.take n)[c]? = d[c]? := fun c hc => by rw [List.getElem?_take, if_pos hc]
  refine ⟨⟨?_, ?_⟩, fun x => ?_, hlen⟩
  · rw [hlen]
    intro c x y hc hcn _ hx hy
    have hpl := par_lt hc
    rw [hget _ (by omega)] at hx hy
    exact hh c x y hc hcn (fun h => h) hx hy
  · intro p q x y hp hq he
    have hpn := (List.getElem?_eq_some_iff.1 hp).1
    have hqn := (List.getElem?_eq_some_iff.1 hq).1
    rw [hlen] at hpn hqn
    rw [hget _ hpn] at hp
    rw [hget _ hqn] at hq
    exact hd p q x y hp hq he
  · rw [← hm]
    constructor
    · intro hx
      obtain ⟨c, hc⟩ := List.getElem?_of_mem hx
      have hcn := (List.getElem?_eq_some_iff.1 hc).1
      rw [hlen] at hcn
      rw [hget _ hcn] at hc
      refine ⟨List.mem_of_getElem? hc, ?_⟩
      rintro rfl
      have := hd c n _ _ hc hdn rfl
      omega
    · rintro ⟨hx, hne⟩
      obtain ⟨c, hc⟩ := List.getElem?_of_mem hx
      have hcl := (List.getElem?_eq_some_iff.1 hc).1
      rw [hdl] at hcl
      have hcn : c ≠ n := by rintro rfl; rw [hdn] at hc; injection hc with hc; exact hne hc.symm
      exact List.mem_of_getElem? (i := c) (by rw [hget c (by omega)]; exact hc)
theorem remove_facts {l : List Ent} (h : QI l) {n i : Nat} (hl : l.length = n + 1) {z : Ent} (hz : l[i]? = some z) :
    QI (removeL l i n) ∧ (∀ x, x ∈ removeL l i n ↔ x ∈ l ∧ x ≠ z) ∧ (removeL l i n).length = n := by
  have hil := (List.getElem?_eq_some_iff.1 hz).1
  unfold removeL
  split
  · rename_i e
    subst e
    exact cut_facts h.dist hl hz (fun c a b hc hcn hB ha hb => h.heap c a b hc (by omega) hB ha hb) (fun x => Iff.rfl)
  · obtain ⟨h1, h2, h3⟩ := remove_heap h hl (i := i) (by omega)
    refine cut_facts (h1.dist (h.dist.swap (by omega) (by omega))) (by rw [h1.len, swapL_len, hl]) ?_ h3 (fun x => by rw [h1.mem, swapL_mem (by omega) (by omega)])
    rw [h2 n (Nat.le_refl _), swapL_get (by omega) (by omega)]
    unfold swp
    rw [if_neg (by omega), if_pos rfl]
    exact hz
set_option maxRecDepth 100000 in
set_option maxHeartbeats 4000000 in
theorem heapRemove_any (w : World) (F : Nat → Prop) (g bm : Nat) (most : Int) (l : List Ent) (q : QF w F g bm most l) (n i : Nat) (hl : l.length = n + 1) (hi : i < n + 1) (z : Ent) (hz : l[i]? = some z) :
    Calls Try.prog 26 #[rowsV g, .int .i64 i] w fun e' w' => e' = .returned (.iface 32 z.v) ∧ QF w' F g bm most (removeL l i n) ∧ Kept F w w' := by
  have HQ := Lib.hid q
  have hfew := q.few
  have HL := Lib.hid hl
  have HZ := Lib.hid hz
  rw [hl] at hfew
  have hm2 := fun W => methLen g W
  have hm3 := fun W => methSwap g W
  have hm4 := fun W => methPop g W
  have hw : IntKind.i64.wrap (n : Int) = n := by rw [IntKind.wrap_i64]; omega
  by_cases hin : i = n
  · have HX : Hid (removeL l i n = l.take n) := Lib.hid (by unfold removeL; rw [if_pos hin])
    have hz' : l[n]? = some z := by rw [← hin]; exact hz
    have HZ' := Lib.hid hz'
    have hd : ((n : Int) != i) = false := by rw [hin]; simp
    clear q hz hz' hin
    go_enter Try.func26, Try.ntmps26
    go_wp2_with fail
    refine (rowsLen_any w F g bm most l HQ.out).mono ?_
    rintro e' w' ⟨rfl, rfl⟩
    have hlen : (l.length : Int) = n + 1 := by omega
    rw [hlen]
    clear hlen hl
    go_wp2_with fail
    refine (rowsPop_any w F g bm most l n z HQ.out HL.out HZ'.out).mono ?_
    rintro e' w3 ⟨rfl, q3, k3⟩
    have H3 := Lib.hid (And.intro q3 k3)
    clear q3 k3
    go_wp2
    go_ret
    rw [HX.out]
    exact ⟨rfl, H3.out.1, H3.out.2⟩
  · have hin' : i < n := by omega
    have HX : Hid (removeL l i n = (removeL.fixN (swapL l i n) i n).take n) := Lib.hid (by unfold removeL; rw [if_neg hin])
    have hd : ((n : Int) != i) = true := by rw [bne_iff_ne]; omega
    obtain ⟨hs1, hs2, _⟩ := down_same n _ i (swapL l i n) rfl (by rw [swapL_len, hl]; omega) hin'
    have hsz : (swapL l i n)[n]? = some z := by rw [swapL_get (by omega) (by omega)]; unfold swp; rw [if_neg (by omega), if_pos rfl]; exact hz
    have HS := Lib.hid (And.intro hs1 (And.intro hs2 hsz))
    clear q hz hin hs1 hs2 hsz
    by_cases hmv : i < (downL (swapL l i n) i n).2
    · have HM := Lib.hid (decide_eq_true hmv)
      have HF : Hid (removeL.fixN (swapL l i n) i n = (downL (swapL l i n) i n).1) := Lib.hid (by unfold removeL.fixN; rw [if_pos hmv])
      clear hmv
      go_enter Try.func26, Try.ntmps26
      go_wp2_with fail
      refine (rowsLen_any w F g bm most l HQ.out).mono ?_
      rintro e' w' ⟨rfl, rfl⟩
      have hlen : (l.length : Int) = n + 1 := by omega
      rw [hlen]
      clear hlen hl
      go_wp2_with fail
      refine (rowsSwap_any w F g bm most l HQ.out i n (by rw [HL.out]; omega) (by rw [HL.out]; omega)).mono ?_
      rintro e' w2 ⟨rfl, q2, k2⟩
      have H2 := Lib.hid (And.intro q2 k2)
      clear q2 k2
      go_wp2_with fail
      refine (down_any w2 F g bm most (swapL l i n) H2.out.1 i n hin' (by rw [swapL_len, HL.out]; omega)).mono ?_
      rintro e' w3 ⟨rfl, q3, k3⟩
      rw [HM.out]
      have H3 := Lib.hid (And.intro q3 k3)
      clear q3 k3
      go_wp2_with fail
      refine (rowsPop_any w3 F g bm most _ n z H3.out.1 (by rw [HS.out.1.len, swapL_len, HL.out]) (by rw [HS.out.2.1 n (Nat.le_refl _)]; exact HS.out.2.2)).mono ?_
      rintro e' w4 ⟨rfl, q4, k4⟩
      have H4 := Lib.hid (And.intro q4 k4)
      clear q4 k4
      go_wp2
      go_ret
      rw [HX.out, HF.out]
      exact ⟨rfl, H4.out.1, (H2.out.2.trans H3.out.2 (fun _ _ e => e)).trans H4.out.2 (fun _ _ e => e)⟩
    · have HM := Lib.hid (decide_eq_false hmv)
      have HF : Hid (removeL.fixN (swapL l i n) i n = upL (downL (swapL l i n) i n).1 i) := Lib.hid (by unfold removeL.fixN; rw [if_neg hmv])
      obtain ⟨hu1, hu2⟩ := up_same i (downL (swapL l i n) i n).1 (by rw [HS.out.1.len, swapL_len, HL.out]; omega)
      have HU := Lib.hid (And.intro hu1 hu2)
      clear hmv hu1 hu2
      go_enter Try.func26, Try.ntmps26
      go_wp2_with fail
      refine (rowsLen_any w F g bm most l HQ.out).mono ?_
      rintro e' w' ⟨rfl, rfl⟩
      have hlen : (l.length : Int) = n + 1 := by omega
      rw [hlen]
      clear hlen hl
      go_wp2_with fail
      refine (rowsSwap_any w F g bm most l HQ.out i n (by rw [HL.out]; omega) (by rw [HL.out]; omega)).mono ?_
      rintro e' w2 ⟨rfl, q2, k2⟩
      have H2 := Lib.hid (And.intro q2 k2)
      clear q2 k2
      go_wp2_with fail
      refine (down_any w2 F g bm most (swapL l i n) H2.out.1 i n hin' (by rw [swapL_len, HL.out]; omega)).mono ?_
      rintro e' w3 ⟨rfl, q3, k3⟩
      rw [HM.out]
      have H3 := Lib.hid (And.intro q3 k3)
      clear q3 k3
      go_wp2_with fail
      refine (up_any w3 F g bm most _ H3.out.1 i (by rw [HS.out.1.len, swapL_len, HL.out]; omega)).mono ?_
      rintro e' w4 ⟨rfl, q4, k4⟩
      have H4 := Lib.hid (And.intro q4 k4)
      clear q4 k4
      go_wp2_with fail
      refine (rowsPop_any w4 F g bm most _ n z H4.out.1 (by rw [HU.out.1.len, HS.out.1.len, swapL_len, HL.out]) (by rw [HU.out.2 n hin', HS.out.2.1 n (Nat.le_refl _)]; exact HS.out.2.2)).mono ?_
      rintro e' w5 ⟨rfl, q5, k5⟩
      have H5 := Lib.hid (And.intro q5 k5)
      clear q5 k5
      go_wp2
      go_ret
      rw [HX.out, HF.out]
      exact ⟨rfl, H5.out.1, ((H2.out.2.trans H3.out.2 (fun _ _ e => e)).trans H4.out.2 (fun _ _ e => e)).trans H5.out.2 (fun _ _ e => e)⟩
set_option maxRecDepth 100000 in
theorem drop_no (w : World) (F : Nat → Prop) (g bm : Nat) (most : Int) (l : List Ent) (q : QF w F g bm most l) (hm : 1 ≤ most) (x : Int) (hp : posL l x = none) :
    Calls Try.prog 14 #[.pointer (some ⟨g, 0, none⟩), .int .u64 x] w fun e w' => e = .returned (.bool false) ∧ w = w' := by
  have HLK : Hid (lookF (posF l) x (.int .i64 0) true = .tuple #[.int .i64 0, .bool false]) := Lib.hid (by unfold lookF posF; rw [hp]; rfl)
  obtain ⟨kv, hB, hO, hF⟩ := q.ex
  have HN := Lib.hid (qnone_any w F g bm most l q hm)
  have h1 : w.cell? ⟨g, 1, none⟩ = some (.map (some bm)) := hB.cell 1
  have HM := Lib.hid q.map
  clear hB hO hF q hp
  go_enter Try.func14, Try.ntmps14
  go_wp2_with (first
    | (go_at_call 22; refine HN.out.mono ?_; rintro e w' ⟨rfl, rfl⟩)
    | (refine wpList_lookupF u64T Try.underlying55 zeroInt rfl (.tmp 14) (.tmp 15) true rfl HM.out rfl x rfl ?_; rw [HLK.out]))
  go_ret
  exact ⟨rfl, rfl⟩
set_option maxRecDepth 100000 in
theorem drop_yes (w : World) (F : Nat → Prop) (g bm : Nat) (most : Int) (l : List Ent) (q : QF w F g bm most l) (hm : 1 ≤ most) (x : Int) (i n : Nat) (hl : l.length = n + 1) (hp : posL l x = some i) :
    Calls Try.prog 14 #[.pointer (some ⟨g, 0, none⟩), .int .u64 x] w fun e w' => e = .returned (.bool true) ∧ QF w' F g bm most (removeL l i n) ∧ Kept F w w' := by
  have HLK : Hid (lookF (posF l) x (.int .i64 0) true = .tuple #[.int .i64 i, .bool true]) := Lib.hid (by unfold lookF posF; rw [hp]; rfl)
  obtain ⟨kv, hB, hO, hF⟩ := q.ex
  have HN := Lib.hid (qnone_any w F g bm most l q hm)
  have h1 : w.cell? ⟨g, 1, none⟩ = some (.map (some bm)) := hB.cell 1
  have HM := Lib.hid q.map
  have hil := posL_lt hp
  obtain ⟨z, hz⟩ : ∃ z, l[i]? = some z := ⟨_, List.getElem?_eq_getElem hil⟩
  have HZ := Lib.hid (And.intro q (And.intro hl (And.intro hz hil)))
  clear hB hO hF q hp hl hz hil
  go_enter Try.func14, Try.ntmps14
  go_wp2_with (first
    | (go_at_call 22; refine HN.out.mono ?_; rintro e w' ⟨rfl, rfl⟩)
    | (refine wpList_lookupF u64T Try.underlying55 zeroInt rfl (.tmp 14) (.tmp 15) true rfl HM.out rfl x rfl ?_; rw [HLK.out])
    | (go_at_call 26; refine (heapRemove_any w F g bm most l HZ.out.1 n i HZ.out.2.1 (by have := HZ.out.2.2.2; have h2 := HZ.out.2.1; omega) z HZ.out.2.2.1).mono ?_; rintro e w2 ⟨rfl, q2, k2⟩; have H2 := Lib.hid (And.intro q2 k2); clear q2 k2))
  go_ret
  exact ⟨rfl, H2.out.1, H2.out.2⟩
set_option maxRecDepth 100000 in
theorem when_no (w : World) (F : Nat → Prop) (g bm : Nat) (most : Int) (l : List Ent) (q : QF w F g bm most l) (hm : 1 ≤ most) (x : Int) (hp : posL l x = none) :
    Calls Try.prog 21 #[.pointer (some ⟨g, 0, none⟩), .int .u64 x] w fun e w' => e = .returned (.tuple #[.int .i64 0, .bool false]) ∧ w = w' := by
  have HLK : Hid (lookF (posF l) x (.int .i64 0) true = .tuple #[.int .i64 0, .bool false]) := Lib.hid (by unfold lookF posF; rw [hp]; rfl)
  obtain ⟨kv, hB, hO, hF⟩ := q.ex
  have HN := Lib.hid (qnone_any w F g bm most l q hm)
  have h1 : w.cell? ⟨g, 1, none⟩ = some (.map (some bm)) := hB.cell 1
  have HM := Lib.hid q.map
  clear hB hO hF q hp
  go_enter Try.func21, Try.ntmps21
  go_wp2_with (first
    | (go_at_call 22; refine HN.out.mono ?_; rintro e w' ⟨rfl, rfl⟩)
    | (refine wpList_lookupF u64T Try.underlying55 zeroInt rfl (.tmp 15) (.tmp 16) true rfl HM.out rfl x rfl ?_; rw [HLK.out]))
  go_ret2
  exact ⟨rfl, rfl⟩
set_option maxRecDepth 100000 in
theorem when_yes (w : World) (F : Nat → Prop) (g bm : Nat) (most : Int) (l : List Ent) (q : QF w F g bm most l) (hm : 1 ≤ most) (x : Int) (i : Nat) (z : Ent) (hz : l[i]? = some z) (hp : posL l x = some i) :
    Calls Try.prog 21 #[.pointer (some ⟨g, 0, none⟩), .int .u64 x] w fun e w' => e = .returned (.tuple #[.int .i64 z.at_, .bool true]) ∧ w = w' := by
  have HLK : Hid (lookF (posF l) x (.int .i64 0) true = .tuple #[.int .i64 i, .bool true]) := Lib.hid (by unfold lookF posF; rw [hp]; rfl)
  have hil := posL_lt hp
  obtain ⟨gk, cap, cur, hB, hBk, hnc, hcm, hcs, ht, -⟩ := q.row (by omega)
  have HN := Lib.hid (qnone_any w F g bm most l q hm)
  have h1 : w.cell? ⟨g, 1, none⟩ = some (.map (some bm)) := hB.cell 1
  have h0 : w.cell? ⟨g, 0, none⟩ = some (.slice (some ⟨gk, 0, none⟩) l.length cap) := hB.cell 0
  obtain ⟨c0, -, -⟩ := ent_cells hBk ht hz
  have HM := Lib.hid q.map
  obtain ⟨N, hN⟩ : ∃ N, l.length = N := ⟨_, rfl⟩
  rw [hN] at h0 hil
  have hiI : (i : Int) < N := by omega
  clear hB hBk hnc hcm hcs ht q hp hz hN
  go_enter Try.func21, Try.ntmps21
  go_wp2_with (first
    | (go_at_call 22; refine HN.out.mono ?_; rintro e w' ⟨rfl, rfl⟩)
    | (refine wpList_lookupF u64T Try.underlying55 zeroInt rfl (.tmp 15) (.tmp 16) true rfl HM.out rfl x rfl ?_; rw [HLK.out]))
  go_ret2
  exact ⟨rfl, rfl⟩
end Go.Proofs.Ytgpgcjdbppehjaa
