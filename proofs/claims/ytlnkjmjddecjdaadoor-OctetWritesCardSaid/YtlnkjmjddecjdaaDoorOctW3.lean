/-
  OctetWrites: the walk. Printed by gen_octw3.py.
-/
import Derived.Test.YtlnkjmjddecjdaaDoorOctW2
import Derived.Test.YtlnkjmjddecjdaaDoorRefW
import Derived.Test.YtlnkjmjddecjdaaDoorBag4
import Derived.Lib.Builder
namespace Go.Proofs.YtlnkjmjddecjdaaDoor
set_option linter.unusedVariables false
open Go.RowKit

def s0W (m : Int) : Wr := ⟨max m 0, 0, []⟩
def RelW (w : World) (g gd : Nat) (m : Int) (n : Nat) (L : List OpA) (iv : Value) (W : World) : Prop :=
  ∃ (i : Nat) (v vd : Value), iv = .int .i64 i ∧ i ≤ n ∧ Hid (Wk w W g v gd vd m (acts (s0W m) (L.take i)) (acts (s0W m) (L.take i)))
theorem WPost.keepB {base g q : Nat} {w w' : World} {v : Value} {s s' : Wr} {t : TypeId} {cs : Array Value} (h : WS base w g v s) (p : WPost base w w' g v s') (hb : Blk w q t cs) (h1 : t ≠ 74) (h2 : t ≠ 5) : Blk w' q t cs := by
  obtain ⟨v', _, k, _⟩ := p
  refine hb.kept k fun hq => ?_
  rcases hq with rfl | hq
  · exact blk_ne hb h.2.1 h1 rfl
  · exact own_blk_ne h.2.2 hb (Ne.symm h2) hq
theorem Wk.stepWx {w W W' : World} {g gd gi : Nat} {v vd : Value} {m : Int} {s s' t : Wr} {C : Array Value} (h : Wk w W g v gd vd m s t) (p : WPost w.heap.size W W' g v s') (hi : Blk W gi 5 C) (hn : ∀ i, v.ownBlock = some i → i ≠ gi) (hd : ∀ i, vd.ownBlock = some i → i ≠ gi) :
    ∃ v', Wk w W' g v' gd vd m s' t ∧ Blk W' gi 5 C ∧ (∀ i, v'.ownBlock = some i → i ≠ gi) ∧ (∀ i, vd.ownBlock = some i → i ≠ gi) := by
  obtain ⟨v2, h2, k, h3⟩ := p
  obtain ⟨v', h1⟩ := h.two.stepW ⟨v2, h2, k, h3⟩
  have hc := h2.2.1.cell 0
  have hc' := h1.ws.2.1.cell 0
  have hv : v' = v2 := by
    have := hc'.symm.trans hc
    simpa using this
  subst hv
  refine ⟨v', ⟨h1, h.b.trans (WPost.below h.two.ws ⟨v', h2, k, h3⟩)⟩, hi.kept k ?_, fun i hi' => ?_, hd⟩
  · rintro (e | e)
    · exact blk_ne hi h.two.ws.2.1 (by decide) e
    · exact hn _ e rfl
  · rcases h3 with e | ⟨j, hj, e⟩
    · exact hn i (by rw [← e]; exact hi')
    · rw [e] at hi'; injection hi' with hi'; have := hi.lt; omega
theorem Wk.stepDx {w W W' : World} {g gd gi : Nat} {v vd : Value} {m : Int} {s t t' : Wr} {C : Array Value} (h : Wk w W g v gd vd m s t) (p : DPost w.heap.size W W' gd vd m t') (hi : Blk W gi 5 C) (hn : ∀ i, v.ownBlock = some i → i ≠ gi) (hd : ∀ i, vd.ownBlock = some i → i ≠ gi) :
    ∃ vd', Wk w W' g v gd vd' m s t' ∧ Blk W' gi 5 C ∧ (∀ i, v.ownBlock = some i → i ≠ gi) ∧ (∀ i, vd'.ownBlock = some i → i ≠ gi) := by
  obtain ⟨v2, h2, k, h3⟩ := p
  obtain ⟨v', h1⟩ := h.two.stepD ⟨v2, h2, k, h3⟩
  have hc := h2.2.1.cell 0
  have hc' := h1.wd.2.1.cell 0
  have hv : v' = v2 := by
    have := hc'.symm.trans hc
    simpa using this
  subst hv
  refine ⟨v', ⟨h1, h.b.trans (DPost.below h.two.wd ⟨v', h2, k, h3⟩)⟩, hi.kept k ?_, hn, fun i hi' => ?_⟩
  · rintro (e | e)
    · exact blk_ne hi h.two.wd.2.1 (by decide) e
    · exact hd _ e rfl
  · rcases h3 with e | ⟨j, hj, e⟩
    · exact hd i (by rw [← e]; exact hi')
    · rw [e] at hi'; injection hi' with hi'; have := hi.lt; omega
theorem Wk.setx {w W : World} {g gd gi : Nat} {v vd : Value} {m : Int} {s t : Wr} {C : Array Value} (h : Wk w W g v gd vd m s t) (hi : Blk W gi 5 C) (hb : w.heap.size ≤ gi) (hn : ∀ i, v.ownBlock = some i → i ≠ gi) (hd : ∀ i, vd.ownBlock = some i → i ≠ gi) (j : Nat) (u : Value) :
    Wk w (W.setCell ⟨gi, j, none⟩ u) g v gd vd m s t :=
  ⟨h.two.kept (kept_set W gi j u) (fun e => blk_ne hi h.two.ws.2.1 (by decide) e.symm) (fun e => blk_ne hi h.two.wd.2.1 (by decide) e.symm) hn hd, h.b.setCell hb _⟩
def RelK (w : World) (g gd gi : Nat) (v vd : Value) (m : Int) (s : Wr) (om : Nat) (kv : Value) (W : World) : Prop :=
  ∃ (j : Nat) (C : Array Value), kv = .int .i64 j ∧ j ≤ om ∧ C.size = om + 64 ∧ Hid (Blk W gi 5 C) ∧ Hid (Wk w W g v gd vd m s s)
theorem Has.reads {W : World} {base : Nat} {s : Sl} {xs : List Int} (h : Has W base s xs) : Reads W W.heap.size 1 s.A s.n (u8s xs) := by
  obtain ⟨A, c, e, _, _, r⟩ := own_shape (show W.ownsRow base 5 1 s.v s.n (u8s xs) from h)
  obtain ⟨sA, sn, sc⟩ := s
  injection e with e1 e2 e3
  subst e1
  exact r
theorem Rows8.drew {W : World} {base : Nat} {L : List Sl} {X : Nat → List Int} (h : Rows8 W base L X) : Rows8 W.drew base L X := ⟨fun k s hs => h.has k s hs, h.sep, h.few⟩
theorem wptr_neq (a : Addr) (W : World) : (binOp .neq 25 (.pointer (some a)) (.pointer (some a))).run Tryd.prog W = .ok (.bool false) W := by
  obtain ⟨j, hj⟩ : ∃ j, Tryd.prog.info? 74 = some j := Option.isSome_iff_exists.1 (by kernel_rfl)
  exact Lib.run_neq_ptr_same W a Tryd.underlying25 hj
set_option maxRecDepth 100000 in
set_option maxHeartbeats 16000000 in
theorem octetWrites_walk (m : Int) (A : Option Addr) (n c : Nat) (L : List OpA) (w : World) (hm0 : -9223372036854775808 ≤ m) (hm1 : m ≤ 9223372036854775807) (hL : Opl w A n L) (hr : ∀ o ∈ L, o.m ≤ reachBytes) (hc : n ≤ c) (hcm : c ≤ 9223372036854775807) :
    Calls Tryd.prog 3 #[.int .i64 m, .slice A n c] w fun e w' => e = .returned (.bool true) ∧ Below w.heap.size w w' := by
  have HL := Lib.hid hL
  have HHv := Lib.hid (opHeavy_any A n c L w hL hr hc hcm)
  clear hL hr
  go_enter Tryd.func3, Tryd.ntmps3
  go_wp2_with fail
  refine HHv.out.mono ?_
  rintro e w1 ⟨b, rfl, ⟨k, rfl⟩, hbn⟩
  have hb1 : Below w.heap.size w (w.drewN k) := below_of_drewN _ w k
  clear HHv
  cases b with
  | true =>
    clear hbn
    go_wp2_with fail
    refine (lives_any _).mono ?_
    rintro e wl ⟨rfl, hbl⟩
    go_wp2_with fail
    go_ret
    exact ⟨rfl, below_then hb1 hbl⟩
  | false =>
    obtain ⟨hS, hn⟩ := hbn rfl
    clear hbn
    go_wp2_with fail
    refine (write_any m _ hm0 hm1).mono ?_
    rintro e w1 ⟨g, rfl, h1, hb⟩
    replace h1 : WS w.heap.size w1 g (.slice none 0 0) (s0W m) := h1
    have hb2 := below_then hb1 hb
    have HW : Hid (Wk w (w1.alloc (.cells #[.slice none 0 0, .int .i64 m, .int .i64 0] 31)) g (.slice none 0 0) w1.heap.size (.slice none 0 0) m (s0W m) (s0W m)) :=
      Lib.hid ⟨⟨h1.alloc _, ⟨hb2.size, Blk.new _ _ _, World.ownsRow_nil _ _ _ _⟩, fun i hi => by simp [Value.ownBlock] at hi⟩, hb2.alloc hb2.size _⟩
    clear h1 hb hb1 hb2
    go_wp2_with fail
    generalize w1.heap.size = gd at *
    generalize w1.alloc (.cells #[.slice none 0 0, .int .i64 m, .int .i64 0] 31) = w2 at *
    have HS := Lib.hid hS
    clear hS
    have hnq := wptr_neq ⟨g, 0, none⟩
    go_loopw [7] (RelW w g gd m n L) (fun iv _ => n - (intOf iv).toNat)
    case atStart => exact ⟨0, _, _, rfl, by omega, HW⟩
    case round =>
      obtain ⟨i, v, vd, rfl, hi, hW⟩ := hrel
      by_cases hlt : i < n
      · obtain ⟨ad, ⟨d0, on, oa, ov, oA, om, oc, oB⟩, rfl, _, hs, hok, a0, a1, a2, a3, a4⟩ := (HL.out.since hW.out.b).at_ hlt
        simp only at a0 a1 a2 a3 a4
        have hac := acts_succ (s := s0W m) hs
        have hlen : (acts (s0W m) (L.take i)).xs.length ≤ bsum L i + 4 * i := acts_len (s0W m) L rfl (fun o ho => (HL.out.ok o ho).body.u8len) i
        have hmo := acts_most (s0W m) L i
        have hsu := bsum_succ hs
        have hle := bsum_le L hi
        have hle2 := bsum_le L (show i + 1 ≤ n from hlt)
        have hSS := HS.out
        have HBo : Hid (Reads w w.heap.size 1 oA om (u8s oB)) := Lib.hid (HL.out.ok _ (List.mem_of_getElem? hs)).body
        have HOk := Lib.hid (And.intro hok.dob (And.intro hok.nb (And.intro hok.atb (And.intro hok.vb hok.cap))))
        simp only at HOk
        obtain ⟨s, hsE⟩ : ∃ s, acts (s0W m) (L.take i) = s := ⟨_, rfl⟩
        rw [hsE] at hac hW hlen hmo
        have hmo' : s.most = max m 0 := hmo
        have hsl : s.xs.length ≤ 66336 := by omega
        have hom : om ≤ 65536 := by simp only at hsu; omega
        have HM := Lib.hid hmo'
        have hsm0 : 0 ≤ s.most := by omega
        have hsm1 : s.most ≤ 9223372036854775807 := by omega
        obtain ⟨⟨hd0, hd1⟩, ⟨hn0, hn1⟩, ⟨ha0, ha1⟩, ⟨hv0, hv1⟩, hco, hcom⟩ := HOk.out
        clear hs hsu hle hle2 hSS hsE hlen hmo hok hmo' HOk
        obtain ⟨s', hs'⟩ : ∃ s', s.act ⟨d0, on, oa, ov, oA, om, oc, oB⟩ = s' := ⟨_, rfl⟩
        rw [hs'] at hac
        have HA := Lib.hid hac
        clear hac
        have HX : Hid (Blk (wr.alloc (.cells #[.int .i64 d0, .int .i64 on, .int .i64 oa, .int .u32 ov, .slice oA om oc] 34)) wr.heap.size 34 #[.int .i64 d0, .int .i64 on, .int .i64 oa, .int .u32 ov, .slice oA om oc]) := Lib.hid (Blk.new _ _ _)
        have HW1 : Hid (Wk w (wr.alloc (.cells #[.int .i64 d0, .int .i64 on, .int .i64 oa, .int .u32 ov, .slice oA om oc] 34)) g v gd vd m s s) := Lib.hid (hW.out.later ((Below.refl _ _).alloc (Nat.le_refl _) _))
        clear hW HW
        by_cases h1 : d0 = 1
        · subst h1
          have HP : Hid (s.put oB = s') := by show _ = _; rw [← hs']; unfold Wr.act; rw [if_pos rfl]
          clear hs'
          go_wp2_with fail
          generalize wr.heap.size = gx at *
          generalize wr.alloc (.cells #[.int .i64 1, .int .i64 on, .int .i64 oa, .int .u32 ov, .slice oA om oc] 34) = w3 at *
          clear a0 a1 a2 a3 a4
          refine (wideBytes_any oA om oc oB w3 (HBo.out.later HW1.out.b) (by omega)).mono ?_
          rintro e w4 ⟨gi, rfl, hgi, hbk, hb⟩
          have hlB := HBo.out.u8len
          rw [hlB]
          have HBk := Lib.hid hbk
          have HLB := Lib.hid hlB
          have HGi : Hid (w.heap.size ≤ gi) := Lib.hid (Nat.le_trans HW1.out.b.size hgi)
          have HNo : Hid ((∀ i, v.ownBlock = some i → i ≠ gi) ∧ (∀ i, vd.ownBlock = some i → i ≠ gi)) := Lib.hid ⟨fun i hi => by have := (own_ge HW1.out.two.ws.2.2 hi).2; omega, fun i hi => by have := (own_ge HW1.out.two.wd.2.2 hi).2; omega⟩
          have HW2 := Lib.hid (HW1.out.later hb)
          replace HX := Lib.hid (HX.out.later hb)
          clear hbk hb hgi hlB HW1
          have HIn : Hid (∀ W : World, Blk W gi 5 (u8s (wide oB)).toArray → Reads W W.heap.size 1 (some ⟨gi, 0, none⟩) om (u8s oB)) := Lib.hid (fun W hW => by
            have h1 := Blk.reads (n := om) hW (by rw [u8s_length, wide_length, HLB.out]; omega)
            rw [u8s_take, show (wide oB).take om = oB by rw [← HLB.out]; exact wide_take oB] at h1
            exact h1.more hW.lt)
          go_wp2_with fail
          refine (put_any _ g v s (some ⟨gi, 0, none⟩) om (om + 64) oB w4 HW2.out.two.ws (HIn.out w4 HBk.out) (by omega) hsm0 hsm1).mono ?_
          rintro e w5 ⟨rfl, hp⟩
          replace HX := Lib.hid (WPost.keepB HW2.out.two.ws hp HX.out (by decide) (by decide))
          obtain ⟨v5, hW5, hBk5, hno5⟩ := HW2.out.stepWx hp HBk.out HNo.out.1 HNo.out.2
          rw [HP.out] at hW5
          have HW5 := Lib.hid hW5
          replace HBk := Lib.hid hBk5
          replace HNo := Lib.hid hno5
          clear hW5 hBk5 hno5 hp HW2
          have x4 : w5.cell? ⟨gx, 4, none⟩ = some (.slice oA om oc) := by rw [HX.out.cell]; rfl
          go_wp2_with fail
          refine (eqBytes_any (some ⟨gi, 0, none⟩) oA om (om + 64) om oc oB oB w5 _ _ (HIn.out w5 HBk.out) (HBo.out.later HW5.out.b) (by omega) (by omega)).mono ?_
          rintro e w6 ⟨rfl, k6, rfl⟩
          rw [decide_eq_true (rfl : oB = oB)]
          replace HX : Hid (Blk (w5.drewN k6) gx 34 #[.int .i64 1, .int .i64 on, .int .i64 oa, .int .u32 ov, .slice oA om oc]) := HX
          replace HBk : Hid (Blk (w5.drewN k6) gi 5 (u8s (wide oB)).toArray) := HBk
          replace HW5 := Lib.hid (HW5.out.later (below_of_drewN _ w5 k6))
          clear x4
          generalize w5.drewN k6 = w6 at *
          go_wp2_with fail
          have HWd : Hid (Reads w6 w6.heap.size 1 (some ⟨gi, 0, none⟩) (om + 64) (u8s (wide oB))) := Lib.hid (by
            have h1 := Blk.reads (n := om + 64) HBk.out (by rw [u8s_length, wide_length, HLB.out]; exact Nat.le_refl _)
            rw [List.take_of_length_le (by rw [u8s_length, wide_length, HLB.out]; exact Nat.le_refl _)] at h1
            exact h1.more HBk.out.lt)
          refine (spareBytes_yes (some ⟨gi, 0, none⟩) om (om + 64) oB w6 _ HWd.out HLB.out (Nat.le_refl _) (by omega)).mono ?_
          rintro e w7 ⟨rfl, k7, rfl⟩
          replace HX : Hid (Blk (w6.drewN k7) gx 34 #[.int .i64 1, .int .i64 on, .int .i64 oa, .int .u32 ov, .slice oA om oc]) := HX
          replace HBk : Hid (Blk (w6.drewN k7) gi 5 (u8s (wide oB)).toArray) := HBk
          replace HW5 := Lib.hid (HW5.out.later (below_of_drewN _ w6 k7))
          clear HWd HIn
          generalize w6.drewN k7 = w7 at *
          have x4 : w7.cell? ⟨gx, 4, none⟩ = some (.slice oA om oc) := by rw [HX.out.cell]; rfl
          go_wp2_with fail
          refine (dput_any _ gd vd m s oA om oc oB w7 HW5.out.two.wd HM.out (HBo.out.later HW5.out.b) (by omega) hm0 hm1).mono ?_
          rintro e w8 ⟨rfl, hp⟩
          obtain ⟨vd8, hW8, hBk8, hno8⟩ := HW5.out.stepDx hp HBk.out HNo.out.1 HNo.out.2
          rw [HP.out] at hW8
          have HW8 := Lib.hid hW8
          replace HBk := Lib.hid hBk8
          replace HNo := Lib.hid hno8
          clear hW8 hBk8 hno8 hp HW5 HX x4
          have HSz : Hid ((u8s (wide oB)).toArray.size = om + 64) := by show _ = _; simp [u8s_length, wide_length, HLB.out]
          go_wp2_with fail
          go_loopw [10] (RelK w g gd gi v5 vd8 m s' om) (fun jv _ => om - (intOf jv).toNat)
          case atStart => exact ⟨0, _, rfl, by omega, HSz.out, HBk, HW8⟩
          case round =>
            obtain ⟨j, C, rfl, hj, hC, hBj, hWj⟩ := hrel
            by_cases hjl : j < om
            · obtain ⟨u, hu⟩ : ∃ u, C[j]? = some u := ⟨_, Array.getElem?_eq_getElem (by omega)⟩
              have c1 : wr.cell? ⟨gi, j, none⟩ = some u := by rw [hBj.out.cell]; exact hu
              have f1 := hBj.out.frozen j
              have HN1 := Lib.hid (hWj.out.setx hBj.out HGi.out HNo.out.1 HNo.out.2 j (.int .u8 77))
              have HN2 := Lib.hid (hBj.out.set_ j (.int .u8 77))
              clear hu hBj hWj
              go_wp2
              go_roundw
              case rel => exact ⟨j + 1, _, by go_num, by omega, by simpa using hC, HN2, HN1⟩
              case measure => simp [intOf]; omega
            · have HW := hWj
              clear hWj hBj hC HBk HW8 HSz HGi HNo HLB
              generalize wr = W8 at *
              obtain ⟨Ad, cd, _, hcd, hcdm, e0, _, _⟩ := HW.out.dcells
              have HS0 : Hid ((fun W : World => W.cell? ⟨gd, 0, none⟩ = some (.slice Ad s'.xs.length cd)) W8) := Lib.hid e0
              clear e0
              go_wp2_with fail
              refine wp_region_s (fun W : World => W.cell? ⟨gd, 0, none⟩ = some (.slice Ad s'.xs.length cd)) [(0, true), (2, true), (3, true), (4, true), (5, true), (6, true), (1, false), (7, true)] (by kernel_rfl) (fun _ d _ _ _ h => by cases d <;> exact h) ?_
              simp only [List.map_cons, List.map_nil, nthOp_zero, nthOp_succ]
              refine wpS_take HS0 (by rfl) (by intro W hW; go_simp; try with_reducible rfl) ?_
              refine wpS_take HS0 (by rfl) (by intro W hW; go_simp; try with_reducible rfl) ?_
              refine wpS_take HS0 (by rfl) (by intro W hW; go_simp; try with_reducible rfl) ?_
              refine wpS_take HS0 (by rfl) (by intro W hW; go_simp; try with_reducible rfl) ?_
              refine wpS_take HS0 (by rfl) (by intro W hW; go_simp; try with_reducible rfl) ?_
              refine wpS_take HS0 (by rfl) (by intro W hW; go_simp; try with_reducible rfl) ?_
              refine wpS_do fun K1 hK1 => ?_
              go_wp2_with fail
              have HWd := Lib.hid (HW.out.later (below_of_drewN _ _ 1))
              refine (wlen_any W8.drew _ g v5 s' HWd.out.two.ws).mono ?_
              rintro e w9 ⟨rfl, k9, rfl⟩
              have HW9 : Hid (Wk w (W8.drewN (1 + k9)) _ _ _ _ _ _ _) := Lib.hid (HW.out.later (below_of_drewN _ _ (1 + k9)))
              go_wp2_with fail
              refine hK1.out _ _ HS0.out ?_
              clear hK1 K1
              refine wpS_take HS0 (by rfl) (by intro W hW; go_simp; try with_reducible rfl) ?_
              refine wpS_nil ?_
              go_wp2_with fail
              try go_simp
              go_wp2_with fail
              go_roundw
              case rel => exact ⟨i + 1, _, _, by go_num, by omega, by rw [HA.out]; exact HW9⟩
              case measure => simp [intOf]; omega
        · by_cases h3 : d0 = 3
          · subst h3
            have HP : Hid (s.patch oa ov on = s') := by show _ = _; rw [← hs']; unfold Wr.act; rw [if_neg (show ¬ (3 : Int) = 1 by decide), if_pos rfl]
            clear hs' h1
            go_wp2_with fail
            have HX1 := HX.out
            have x1 : (wr.alloc (.cells #[.int .i64 3, .int .i64 on, .int .i64 oa, .int .u32 ov, .slice oA om oc] 34)).cell? ⟨wr.heap.size, 1, none⟩ = some (.int .i64 on) := by rw [HX1.cell]; rfl
            have x2 : (wr.alloc (.cells #[.int .i64 3, .int .i64 on, .int .i64 oa, .int .u32 ov, .slice oA om oc] 34)).cell? ⟨wr.heap.size, 2, none⟩ = some (.int .i64 oa) := by rw [HX1.cell]; rfl
            have x3 : (wr.alloc (.cells #[.int .i64 3, .int .i64 on, .int .i64 oa, .int .u32 ov, .slice oA om oc] 34)).cell? ⟨wr.heap.size, 3, none⟩ = some (.int .u32 ov) := by rw [HX1.cell]; rfl
            clear HX1 x1 x2 x3
            generalize wr.heap.size = gx at *
            generalize wr.alloc (.cells #[.int .i64 3, .int .i64 on, .int .i64 oa, .int .u32 ov, .slice oA om oc] 34) = w3 at *
            clear a0 a1 a2 a3 a4
            refine (patch_any _ g v s oa ov on w3 HW1.out.two.ws hv0 hv1 ha0 ha1 hn0 hn1 (by omega)).mono ?_
            rintro e w4 ⟨rfl, hp⟩
            replace HX := Lib.hid (WPost.keepB HW1.out.two.ws hp HX.out (by decide) (by decide))
            obtain ⟨v4, hW4⟩ := HW1.out.stepW hp
            rw [HP.out] at hW4
            have HW4 := Lib.hid hW4
            clear hW4 hp HW1
            have x1 : w4.cell? ⟨gx, 1, none⟩ = some (.int .i64 on) := by rw [HX.out.cell]; rfl
            have x2 : w4.cell? ⟨gx, 2, none⟩ = some (.int .i64 oa) := by rw [HX.out.cell]; rfl
            have x3 : w4.cell? ⟨gx, 3, none⟩ = some (.int .u32 ov) := by rw [HX.out.cell]; rfl
            go_wp2_with fail
            refine (dpatch_any _ gd vd m s oa ov on w4 HW4.out.two.wd hv0 hv1 ha0 ha1 hn0 hn1 (by omega)).mono ?_
            rintro e w5 ⟨rfl, hp⟩
            obtain ⟨vd5, hW5⟩ := HW4.out.stepD hp
            rw [HP.out] at hW5
            have HW := Lib.hid hW5
            clear hW5 hp HW4 HX x1 x2 x3
            generalize w5 = W8 at *
            obtain ⟨Ad, cd, _, hcd, hcdm, e0, _, _⟩ := HW.out.dcells
            have HS0 : Hid ((fun W : World => W.cell? ⟨gd, 0, none⟩ = some (.slice Ad s'.xs.length cd)) W8) := Lib.hid e0
            clear e0
            go_wp2_with fail
            refine wp_region_s (fun W : World => W.cell? ⟨gd, 0, none⟩ = some (.slice Ad s'.xs.length cd)) [(0, true), (2, true), (3, true), (4, true), (5, true), (6, true), (1, false), (7, true)] (by kernel_rfl) (fun _ d _ _ _ h => by cases d <;> exact h) ?_
            simp only [List.map_cons, List.map_nil, nthOp_zero, nthOp_succ]
            refine wpS_take HS0 (by rfl) (by intro W hW; go_simp; try with_reducible rfl) ?_
            refine wpS_take HS0 (by rfl) (by intro W hW; go_simp; try with_reducible rfl) ?_
            refine wpS_take HS0 (by rfl) (by intro W hW; go_simp; try with_reducible rfl) ?_
            refine wpS_take HS0 (by rfl) (by intro W hW; go_simp; try with_reducible rfl) ?_
            refine wpS_take HS0 (by rfl) (by intro W hW; go_simp; try with_reducible rfl) ?_
            refine wpS_take HS0 (by rfl) (by intro W hW; go_simp; try with_reducible rfl) ?_
            refine wpS_do fun K1 hK1 => ?_
            go_wp2_with fail
            have HWd := Lib.hid (HW.out.later (below_of_drewN _ _ 1))
            refine (wlen_any W8.drew _ g v4 s' HWd.out.two.ws).mono ?_
            rintro e w9 ⟨rfl, k9, rfl⟩
            have HW9 : Hid (Wk w (W8.drewN (1 + k9)) _ _ _ _ _ _ _) := Lib.hid (HW.out.later (below_of_drewN _ _ (1 + k9)))
            go_wp2_with fail
            refine hK1.out _ _ HS0.out ?_
            clear hK1 K1
            refine wpS_take HS0 (by rfl) (by intro W hW; go_simp; try with_reducible rfl) ?_
            refine wpS_nil ?_
            go_wp2_with fail
            try go_simp
            go_wp2_with fail
            go_roundw
            case rel => exact ⟨i + 1, _, _, by go_num, by omega, by rw [HA.out]; exact HW9⟩
            case measure => simp [intOf]; omega
          · have HP : Hid (s.num ov on = s') := by show _ = _; rw [← hs']; unfold Wr.act; rw [if_neg h1, if_neg h3]
            clear hs'
            have q1 : (d0 == 1) = false := by simp [h1]
            have q3 : (d0 == 3) = false := by simp [h3]
            clear h1 h3
            go_wp2_with fail
            generalize wr.heap.size = gx at *
            generalize wr.alloc (.cells #[.int .i64 d0, .int .i64 on, .int .i64 oa, .int .u32 ov, .slice oA om oc] 34) = w3 at *
            clear a0 a1 a2 a3 a4
            refine (num_any _ g v s ov on w3 HW1.out.two.ws hv0 hv1 hn0 hn1 (by omega) hsm0 hsm1).mono ?_
            rintro e w4 ⟨rfl, hp⟩
            replace HX := Lib.hid (WPost.keepB HW1.out.two.ws hp HX.out (by decide) (by decide))
            obtain ⟨v4, hW4⟩ := HW1.out.stepW hp
            rw [HP.out] at hW4
            have HW4 := Lib.hid hW4
            clear hW4 hp HW1
            have x1 : w4.cell? ⟨gx, 1, none⟩ = some (.int .i64 on) := by rw [HX.out.cell]; rfl
            have x3 : w4.cell? ⟨gx, 3, none⟩ = some (.int .u32 ov) := by rw [HX.out.cell]; rfl
            go_wp2_with fail
            refine (dnum_any _ gd vd m s ov on w4 HW4.out.two.wd HM.out hv0 hv1 hn0 hn1 (by omega) hm0 hm1).mono ?_
            rintro e w5 ⟨rfl, hp⟩
            obtain ⟨vd5, hW5⟩ := HW4.out.stepD hp
            rw [HP.out] at hW5
            have HW := Lib.hid hW5
            clear hW5 hp HW4 HX x1 x3
            generalize w5 = W8 at *
            obtain ⟨Ad, cd, _, hcd, hcdm, e0, _, _⟩ := HW.out.dcells
            have HS0 : Hid ((fun W : World => W.cell? ⟨gd, 0, none⟩ = some (.slice Ad s'.xs.length cd)) W8) := Lib.hid e0
            clear e0
            go_wp2_with fail
            refine wp_region_s (fun W : World => W.cell? ⟨gd, 0, none⟩ = some (.slice Ad s'.xs.length cd)) [(0, true), (2, true), (3, true), (4, true), (5, true), (6, true), (1, false), (7, true)] (by kernel_rfl) (fun _ d _ _ _ h => by cases d <;> exact h) ?_
            simp only [List.map_cons, List.map_nil, nthOp_zero, nthOp_succ]
            refine wpS_take HS0 (by rfl) (by intro W hW; go_simp; try with_reducible rfl) ?_
            refine wpS_take HS0 (by rfl) (by intro W hW; go_simp; try with_reducible rfl) ?_
            refine wpS_take HS0 (by rfl) (by intro W hW; go_simp; try with_reducible rfl) ?_
            refine wpS_take HS0 (by rfl) (by intro W hW; go_simp; try with_reducible rfl) ?_
            refine wpS_take HS0 (by rfl) (by intro W hW; go_simp; try with_reducible rfl) ?_
            refine wpS_take HS0 (by rfl) (by intro W hW; go_simp; try with_reducible rfl) ?_
            refine wpS_do fun K1 hK1 => ?_
            go_wp2_with fail
            have HWd := Lib.hid (HW.out.later (below_of_drewN _ _ 1))
            refine (wlen_any W8.drew _ g v4 s' HWd.out.two.ws).mono ?_
            rintro e w9 ⟨rfl, k9, rfl⟩
            have HW9 : Hid (Wk w (W8.drewN (1 + k9)) _ _ _ _ _ _ _) := Lib.hid (HW.out.later (below_of_drewN _ _ (1 + k9)))
            go_wp2_with fail
            refine hK1.out _ _ HS0.out ?_
            clear hK1 K1
            refine wpS_take HS0 (by rfl) (by intro W hW; go_simp; try with_reducible rfl) ?_
            refine wpS_nil ?_
            go_wp2_with fail
            try go_simp
            go_wp2_with fail
            go_roundw
            case rel => exact ⟨i + 1, _, _, by go_num, by omega, by rw [HA.out]; exact HW9⟩
            case measure => simp [intOf]; omega
      · obtain rfl : i = n := by omega
        have hlen : (acts (s0W m) (L.take i)).xs.length ≤ bsum L i + 4 * i := acts_len (s0W m) L rfl (fun o ho => (HL.out.ok o ho).body.u8len) i
        have hSS := HS.out
        obtain ⟨s, hsE⟩ : ∃ s, acts (s0W m) (L.take i) = s := ⟨_, rfl⟩
        rw [hsE] at hW hlen
        obtain ⟨sm, se, sx⟩ := s
        have hsl : sx.length ≤ 66336 := by simp only at hlen; omega
        clear hlen hSS hsE HS HW HL hnq
        have HWE := hW
        clear hW
        obtain ⟨Ad, cd, hvd, hcd, hcdm, e0, e2, rd⟩ := HWE.out.dcells
        simp only at hvd hcd hcdm e0 e2 rd
        obtain ⟨n1, hn1⟩ : ∃ n1, sx.length = n1 := ⟨_, rfl⟩
        rw [hn1] at hsl hcd e0 rd
        have HC1 := Lib.hid e0
        have HC2 := Lib.hid e2
        have HRd := Lib.hid rd
        clear hvd e0 e2 rd
        go_wp2_with fail
        refine (done_any _ g v _ wr HWE.out.two.ws (by simp only [hn1]; omega)).mono ?_
        rintro e w4 ⟨u1, rfl, hu1, hb1⟩
        have HB1 := Lib.hid hb1
        clear hb1
        simp only at hu1
        go_wp2_with fail
        refine (done_any _ g v _ w4 (HWE.out.later HB1.out).two.ws (by simp only [hn1]; omega)).mono ?_
        rintro e w5 ⟨u2, rfl, hu2, hb2⟩
        have HB := Lib.hid (below_then HB1.out hb2)
        simp only at hu2
        by_cases he : se = 0
        · subst he
          rw [if_pos rfl] at hu1 hu2
          have HAp0 : Hid (∀ i, u1.ownBlock = some i → u2.ownBlock ≠ some i) := Lib.hid (fun i h1 h2 => by
            have q1 := (own_ge hu1 h1).2
            have q2 := (own_ge hu2 h2).1
            omega)
          obtain ⟨A1, c1, e1, hc1, hcm1, _⟩ := own_shape hu1
          obtain ⟨A2, c2, e2, hc2, hcm2, _⟩ := own_shape hu2
          subst e1
          subst e2
          have HAp : Hid (∀ i, (⟨A1, n1, c1⟩ : Sl).v.ownBlock = some i → (⟨A2, n1, c2⟩ : Sl).v.ownBlock ≠ some i) := by rw [← hn1]; exact HAp0
          have R1 : Hid (Has w5 wr.heap.size ⟨A1, n1, c1⟩ sx) := Lib.hid (by rw [← hn1]; exact own_kept (show w4.ownsRow wr.heap.size 5 1 _ _ _ from hu1) (Kept.of_new hb2 (fun _ => False)) (fun _ _ h => h))
          have R2 : Hid (Has w5 wr.heap.size ⟨A2, n1, c2⟩ sx) := Lib.hid (by rw [← hn1]; exact own_mono hu2 HB1.out.size)
          have HRw : Hid (Reads w5 w5.heap.size 1 Ad n1 (u8s sx)) := Lib.hid (HRd.out.later HB.out)
          have HC0 : Hid (w5.cell? ⟨gd, 2, none⟩ = some (.int .i64 0)) := Lib.hid (by rw [HB.out.cell HWE.out.two.wd.2.1.lt]; exact HC2.out)
          have hC0 := HC0.out
          have hC1 : w5.cell? ⟨gd, 0, none⟩ = some (.slice Ad n1 cd) := by rw [HB.out.cell HWE.out.two.wd.2.1.lt]; exact HC1.out
          clear hu1 hu2 HAp0 HB1 hb2
          rw [hn1]
          go_wp2_with fail
          clear hC0 hC1
          refine (eqBytes_any A1 Ad n1 c1 n1 cd (sx) (sx) w5 _ _ R1.out.reads HRw.out (by omega) (by omega)).mono ?_
          rintro e w6 ⟨rfl, k6, rfl⟩
          rw [decide_eq_true (rfl : sx = sx)]
          replace HRw : Hid (Reads (w5.drewN k6) (w5.drewN k6).heap.size 1 Ad n1 (u8s (sx))) := HRw
          replace R1 : Hid (Has (w5.drewN k6) wr.heap.size ⟨A1, n1, c1⟩ (sx)) := R1
          replace R2 : Hid (Has (w5.drewN k6) wr.heap.size ⟨A2, n1, c2⟩ (sx)) := R2
          replace HB := Lib.hid (below_then HB.out (below_of_drewN _ w5 k6))
          replace HC0 : Hid ((w5.drewN k6).cell? ⟨gd, 2, none⟩ = some (.int .i64 0)) := HC0
          have c2' := HC0.out
          generalize w5.drewN k6 = w6 at *
          go_wp2_with fail
          refine (eqBytes_any A2 Ad n1 c2 n1 cd (sx) (sx) w6 _ _ R2.out.reads HRw.out (by omega) (by omega)).mono ?_
          rintro e w7 ⟨rfl, k7, rfl⟩
          rw [decide_eq_true (rfl : sx = sx)]
          replace R1 : Hid (Has (w6.drewN k7) wr.heap.size ⟨A1, n1, c1⟩ (sx)) := R1
          replace R2 : Hid (Has (w6.drewN k7) wr.heap.size ⟨A2, n1, c2⟩ (sx)) := R2
          replace HB := Lib.hid (below_then HB.out (below_of_drewN _ w6 k7))
          clear c2' HC0 HRw
          generalize w6.drewN k7 = w7 at *
          have hb : Below w7.heap.size w7 (w7.alloc (.cells #[.slice none 0 0, .slice none 0 0, .slice none 0 0, .slice none 0 0, .slice none 0 0, .slice none 0 0, .slice none 0 0, .slice none 0 0, .slice none 0 0, .slice none 0 0, .slice none 0 0, .slice none 0 0, .slice none 0 0, .slice none 0 0, .slice none 0 0, .slice none 0 0, .slice none 0 0, .slice none 0 0, .slice none 0 0] 67)) := (Below.refl _ _).alloc (Nat.le_refl _) _
          have HBg : Hid (BagB (w7.alloc (.cells #[.slice none 0 0, .slice none 0 0, .slice none 0 0, .slice none 0 0, .slice none 0 0, .slice none 0 0, .slice none 0 0, .slice none 0 0, .slice none 0 0, .slice none 0 0, .slice none 0 0, .slice none 0 0, .slice none 0 0, .slice none 0 0, .slice none 0 0, .slice none 0 0, .slice none 0 0, .slice none 0 0, .slice none 0 0] 67)) wr.heap.size w7.heap.size (bagC ⟨none, 0, 0⟩) ⟨none, 0, 0⟩ []) := Lib.hid ⟨Blk.new _ _ _, rfl, World.ownsRow_nil _ _ _ _, rfl, Nat.zero_le _⟩
          have HG0 : Hid (wr.heap.size ≤ w7.heap.size) := Lib.hid HB.out.size
          replace R1 := Lib.hid (R1.out.later hb)
          replace R2 := Lib.hid (R2.out.later hb)
          replace HB := Lib.hid (below_then HB.out hb)
          clear hb
          go_wp2_with fail
          generalize w7.heap.size = gb at *
          generalize w7.alloc (.cells #[.slice none 0 0, .slice none 0 0, .slice none 0 0, .slice none 0 0, .slice none 0 0, .slice none 0 0, .slice none 0 0, .slice none 0 0, .slice none 0 0, .slice none 0 0, .slice none 0 0, .slice none 0 0, .slice none 0 0, .slice none 0 0, .slice none 0 0, .slice none 0 0, .slice none 0 0, .slice none 0 0, .slice none 0 0] 67) = w8 at *
          refine (addBytes_any w8 wr.heap.size gb ⟨none, 0, 0⟩ [] ⟨A1, n1, c1⟩ HBg.out (by decide) HB.out.size).mono ?_
          rintro e w9 ⟨rfl, G1, hG, hn1, hk⟩
          have rowk : ∀ (W W' : World) (G : Sl) (L : List Sl) (s : Sl) (ys : List Int), BagB W wr.heap.size gb (bagC G) G L → Kept (fun i => i = gb ∨ G.v.ownBlock = some i) W W' → Has W wr.heap.size s ys → Has W' wr.heap.size s ys := fun W W' G L s ys hB hk hs => hs.kept hk fun i hi hR => by
            rcases hR with rfl | hR
            · exact own_blk_ne (show W.ownsRow wr.heap.size 5 1 s.v s.n _ from hs) hB.blk (by decide) hi
            · exact own_ne (show W.ownsRow wr.heap.size 5 1 s.v s.n _ from hs) hB.row (by decide) i hi hR
          have belk : ∀ (W W' : World) (G : Sl) (L : List Sl), BagB W wr.heap.size gb (bagC G) G L → Kept (fun i => i = gb ∨ G.v.ownBlock = some i) W W' → Below wr.heap.size wr W → Below wr.heap.size wr W' := fun W W' G L hB hk hb => hb.trans (hk.below (fun i hR => by
            rcases hR with rfl | hR
            · exact HG0.out
            · exact (own_ge hB.row hR).1) hb.size)
          have HRk := Lib.hid rowk
          have HBl := Lib.hid belk
          replace R1 := Lib.hid (rowk _ _ _ _ _ _ HBg.out hk R1.out)
          replace R2 := Lib.hid (rowk _ _ _ _ _ _ HBg.out hk R2.out)
          replace HB := Lib.hid (belk _ _ _ _ HBg.out hk HB.out)
          have HG1 := Lib.hid (And.intro hG hn1)
          clear hG hn1 hk rowk belk HBg
          go_wp2_with fail
          refine (addBytes_any w9 wr.heap.size gb G1 _ ⟨A2, n1, c2⟩ HG1.out.1 (by have h9 : G1.n = 0 + 1 := HG1.out.2; omega) HB.out.size).mono ?_
          rintro e wa ⟨rfl, G2, hG, hn2, hk⟩
          replace R1 := Lib.hid (HRk.out _ _ _ _ _ _ HG1.out.1 hk R1.out)
          replace R2 := Lib.hid (HRk.out _ _ _ _ _ _ HG1.out.1 hk R2.out)
          replace HB := Lib.hid (HBl.out _ _ _ _ HG1.out.1 hk HB.out)
          have HG2 := Lib.hid hG
          clear hG hn2 hk HG1
          have hRows : Rows8 wa wr.heap.size ([] ++ [⟨A1, n1, c1⟩] ++ [⟨A2, n1, c2⟩]) (fun k => sx) := by
            have two : ∀ (k : Nat) (s : Sl), ([] ++ [(⟨A1, n1, c1⟩ : Sl)] ++ [⟨A2, n1, c2⟩])[k]? = some s → (k = 0 ∧ s = ⟨A1, n1, c1⟩) ∨ (k = 1 ∧ s = ⟨A2, n1, c2⟩) := fun k s h => by
              rcases k with _ | _ | k
              · left; exact ⟨rfl, by simpa using h.symm⟩
              · right; exact ⟨rfl, by simpa using h.symm⟩
              · simp at h
            have sep := HAp.out
            refine ⟨fun k s h => ?_, fun j k s t i hj hk hne hs ht => ?_, fun k s h => ?_⟩
            · rcases two k s h with ⟨rfl, rfl⟩ | ⟨rfl, rfl⟩
              · exact R1.out
              · exact R2.out
            · rcases two j s hj with ⟨rfl, rfl⟩ | ⟨rfl, rfl⟩ <;> rcases two k t hk with ⟨rfl, rfl⟩ | ⟨rfl, rfl⟩
              · exact hne rfl
              · exact sep i hs ht
              · exact sep i ht hs
              · exact hne rfl
            · rcases two k s h with ⟨rfl, rfl⟩ | ⟨rfl, rfl⟩
              · show n1 ≤ _; omega
              · show n1 ≤ _; omega
          have HRs := Lib.hid hRows
          clear hRows R1 R2
          have HS0 : Hid ((fun W : World => Below wr.heap.size wr W) wa.drew) := Lib.hid (below_then HB.out (below_of_drewN _ wa 1))
          have HCd : Hid (∀ W : World, Below wr.heap.size wr W → W.cell? ⟨gd, 0, none⟩ = some (.slice Ad n1 cd)) := Lib.hid (fun W hW => by have h5 := (HWE.out.two.wd.2.1.lt); rw [hW.cell h5]; exact HC1.out)
          go_wp2_with fail
          refine wp_region_s (fun W : World => Below wr.heap.size wr W) [(0, true), (1, false), (2, true), (3, true), (5, true), (6, true), (7, true), (8, true), (9, true), (4, false), (10, true), (11, true), (12, true), (13, false), (14, true), (15, true)] (by kernel_rfl) (fun _ d _ _ _ h => by cases d <;> exact h) ?_
          simp only [List.map_cons, List.map_nil, nthOp_zero, nthOp_succ]
          refine wpS_take HS0 (by rfl) (by intro W hW; go_simp; try with_reducible rfl) ?_
          refine wpS_do fun K1 hK1 => ?_
          go_wp2_with fail
          refine (apart_any wa.drew wr.heap.size gb G2 _ _ (bag_kept HG2.out ((Kept.refl (fun _ => False) wa).drewN 1) (fun h => h) (fun _ _ h => h)) HRs.out.drew HB.out.size).mono ?_
          rintro e wb ⟨rfl, hbj⟩
          have HBb := Lib.hid ((below_then HB.out (below_of_drewN _ wa 1)).trans hbj)
          clear hbj
          go_wp2_with fail
          refine hK1.out _ _ HBb.out ?_
          clear hK1 K1
          replace HS0 : Hid ((fun W : World => Below wr.heap.size wr W) wb) := HBb
          refine wpS_take HS0 (by kernel_rfl) (by intro W hW; go_simp; try with_reducible rfl) ?_
          refine wpS_take HS0 (by kernel_rfl) (by intro W hW; go_simp; try with_reducible rfl) ?_
          refine wpS_take HS0 (by kernel_rfl) (by intro W hW; go_simp; try with_reducible rfl) ?_
          refine wpS_take HS0 (by kernel_rfl) (by intro W hW; go_simp; try with_reducible rfl) ?_
          refine wpS_take HS0 (by kernel_rfl) (by intro W hW; go_simp; try with_reducible rfl) ?_
          refine wpS_take HS0 (by kernel_rfl) (by intro W hW; have hc0 := HCd.out W hW; go_simp; try with_reducible rfl) ?_
          refine wpS_take HS0 (by kernel_rfl) (by intro W hW; go_simp; try with_reducible rfl) ?_
          try go_simp
          refine wpS_do fun K1 hK1 => ?_
          go_wp2_with fail
          refine (wlen_any wb _ g v ⟨sm, 0, sx⟩ (HWE.out.later HBb.out).two.ws).mono ?_
          rintro e wc ⟨rfl, kc, rfl⟩
          rw [show (⟨sm, 0, sx⟩ : Wr).xs.length = n1 from hn1]
          have HBc : Hid (Below wr.heap.size wr (wb.drewN kc)) := Lib.hid (below_then HBb.out (below_of_drewN _ wb kc))
          go_wp2_with fail
          refine hK1.out _ _ HBc.out ?_
          clear hK1 K1
          replace HS0 : Hid ((fun W : World => Below wr.heap.size wr W) (wb.drewN kc)) := HBc
          refine wpS_take HS0 (by kernel_rfl) (by intro W hW; go_simp; try with_reducible rfl) ?_
          refine wpS_take HS0 (by kernel_rfl) (by intro W hW; go_simp; try with_reducible rfl) ?_
          refine wpS_take HS0 (by kernel_rfl) (by intro W hW; go_simp; try with_reducible rfl) ?_
          try go_simp
          refine wpS_do fun K1 hK1 => ?_
          go_wp2_with fail
          refine (lives_any _).mono ?_
          rintro e wl ⟨rfl, hbl⟩
          have HBl2 := Lib.hid (below_then HBc.out hbl)
          go_wp2_with fail
          refine hK1.out _ _ HBl2.out ?_
          clear hK1 K1
          replace HS0 : Hid ((fun W : World => Below wr.heap.size wr W) wl) := HBl2
          refine wpS_take HS0 (by kernel_rfl) (by intro W hW; go_simp; try with_reducible rfl) ?_
          refine wpS_take HS0 (by kernel_rfl) (by intro W hW; go_simp; try with_reducible rfl) ?_
          try go_simp
          refine wpS_nil ?_
          go_wp2_with fail
          try go_simp
          go_wp2_with fail
          go_ret
          exact ⟨rfl, below_then HWE.out.b HBl2.out⟩
        · rw [if_neg he] at hu1 hu2
          subst hu1
          subst hu2
          have hb : (se != 0) = true := by simp [he]
          have R1 : Hid (Has w5 wr.heap.size ⟨none, 0, 0⟩ []) := Lib.hid (World.ownsRow_nil _ _ _ _)
          have HAp : Hid (∀ i, (⟨none, 0, 0⟩ : Sl).v.ownBlock = some i → (⟨none, 0, 0⟩ : Sl).v.ownBlock ≠ some i) := Lib.hid (fun i h1 _ => by simp [Value.ownBlock] at h1)
          have R2 := R1
          have HRw : Hid (Reads w5 w5.heap.size 1 none 0 (u8s [])) := Lib.hid ⟨rfl, fun h => absurd h (by omega)⟩
          have HC0 : Hid (w5.cell? ⟨gd, 2, none⟩ = some (.int .i64 se)) := Lib.hid (by rw [HB.out.cell HWE.out.two.wd.2.1.lt]; exact HC2.out)
          have hC0 := HC0.out
          have hC1 : w5.cell? ⟨gd, 0, none⟩ = some (.slice Ad n1 cd) := by rw [HB.out.cell HWE.out.two.wd.2.1.lt]; exact HC1.out
          clear HB1 hb2 he
          go_wp2_with fail
          clear hC0 hC1
          refine (eqBytes_any none none 0 0 0 0 (([] : List Int)) (([] : List Int)) w5 _ _ R1.out.reads HRw.out (by omega) (by omega)).mono ?_
          rintro e w6 ⟨rfl, k6, rfl⟩
          rw [decide_eq_true (rfl : ([] : List Int) = ([] : List Int))]
          replace HRw : Hid (Reads (w5.drewN k6) (w5.drewN k6).heap.size 1 none 0 (u8s (([] : List Int)))) := HRw
          replace R1 : Hid (Has (w5.drewN k6) wr.heap.size ⟨none, 0, 0⟩ (([] : List Int))) := R1
          replace R2 : Hid (Has (w5.drewN k6) wr.heap.size ⟨none, 0, 0⟩ (([] : List Int))) := R2
          replace HB := Lib.hid (below_then HB.out (below_of_drewN _ w5 k6))
          replace HC0 : Hid ((w5.drewN k6).cell? ⟨gd, 2, none⟩ = some (.int .i64 se)) := HC0
          have c2' := HC0.out
          generalize w5.drewN k6 = w6 at *
          go_wp2_with fail
          refine (eqBytes_any none none 0 0 0 0 (([] : List Int)) (([] : List Int)) w6 _ _ R2.out.reads HRw.out (by omega) (by omega)).mono ?_
          rintro e w7 ⟨rfl, k7, rfl⟩
          rw [decide_eq_true (rfl : ([] : List Int) = ([] : List Int))]
          replace R1 : Hid (Has (w6.drewN k7) wr.heap.size ⟨none, 0, 0⟩ (([] : List Int))) := R1
          replace R2 : Hid (Has (w6.drewN k7) wr.heap.size ⟨none, 0, 0⟩ (([] : List Int))) := R2
          replace HB := Lib.hid (below_then HB.out (below_of_drewN _ w6 k7))
          clear c2' HC0 HRw
          generalize w6.drewN k7 = w7 at *
          have hb : Below w7.heap.size w7 (w7.alloc (.cells #[.slice none 0 0, .slice none 0 0, .slice none 0 0, .slice none 0 0, .slice none 0 0, .slice none 0 0, .slice none 0 0, .slice none 0 0, .slice none 0 0, .slice none 0 0, .slice none 0 0, .slice none 0 0, .slice none 0 0, .slice none 0 0, .slice none 0 0, .slice none 0 0, .slice none 0 0, .slice none 0 0, .slice none 0 0] 67)) := (Below.refl _ _).alloc (Nat.le_refl _) _
          have HBg : Hid (BagB (w7.alloc (.cells #[.slice none 0 0, .slice none 0 0, .slice none 0 0, .slice none 0 0, .slice none 0 0, .slice none 0 0, .slice none 0 0, .slice none 0 0, .slice none 0 0, .slice none 0 0, .slice none 0 0, .slice none 0 0, .slice none 0 0, .slice none 0 0, .slice none 0 0, .slice none 0 0, .slice none 0 0, .slice none 0 0, .slice none 0 0] 67)) wr.heap.size w7.heap.size (bagC ⟨none, 0, 0⟩) ⟨none, 0, 0⟩ []) := Lib.hid ⟨Blk.new _ _ _, rfl, World.ownsRow_nil _ _ _ _, rfl, Nat.zero_le _⟩
          have HG0 : Hid (wr.heap.size ≤ w7.heap.size) := Lib.hid HB.out.size
          replace R1 := Lib.hid (R1.out.later hb)
          replace R2 := Lib.hid (R2.out.later hb)
          replace HB := Lib.hid (below_then HB.out hb)
          clear hb
          go_wp2_with fail
          generalize w7.heap.size = gb at *
          generalize w7.alloc (.cells #[.slice none 0 0, .slice none 0 0, .slice none 0 0, .slice none 0 0, .slice none 0 0, .slice none 0 0, .slice none 0 0, .slice none 0 0, .slice none 0 0, .slice none 0 0, .slice none 0 0, .slice none 0 0, .slice none 0 0, .slice none 0 0, .slice none 0 0, .slice none 0 0, .slice none 0 0, .slice none 0 0, .slice none 0 0] 67) = w8 at *
          refine (addBytes_any w8 wr.heap.size gb ⟨none, 0, 0⟩ [] ⟨none, 0, 0⟩ HBg.out (by decide) HB.out.size).mono ?_
          rintro e w9 ⟨rfl, G1, hG, hn1, hk⟩
          have rowk : ∀ (W W' : World) (G : Sl) (L : List Sl) (s : Sl) (ys : List Int), BagB W wr.heap.size gb (bagC G) G L → Kept (fun i => i = gb ∨ G.v.ownBlock = some i) W W' → Has W wr.heap.size s ys → Has W' wr.heap.size s ys := fun W W' G L s ys hB hk hs => hs.kept hk fun i hi hR => by
            rcases hR with rfl | hR
            · exact own_blk_ne (show W.ownsRow wr.heap.size 5 1 s.v s.n _ from hs) hB.blk (by decide) hi
            · exact own_ne (show W.ownsRow wr.heap.size 5 1 s.v s.n _ from hs) hB.row (by decide) i hi hR
          have belk : ∀ (W W' : World) (G : Sl) (L : List Sl), BagB W wr.heap.size gb (bagC G) G L → Kept (fun i => i = gb ∨ G.v.ownBlock = some i) W W' → Below wr.heap.size wr W → Below wr.heap.size wr W' := fun W W' G L hB hk hb => hb.trans (hk.below (fun i hR => by
            rcases hR with rfl | hR
            · exact HG0.out
            · exact (own_ge hB.row hR).1) hb.size)
          have HRk := Lib.hid rowk
          have HBl := Lib.hid belk
          replace R1 := Lib.hid (rowk _ _ _ _ _ _ HBg.out hk R1.out)
          replace R2 := Lib.hid (rowk _ _ _ _ _ _ HBg.out hk R2.out)
          replace HB := Lib.hid (belk _ _ _ _ HBg.out hk HB.out)
          have HG1 := Lib.hid (And.intro hG hn1)
          clear hG hn1 hk rowk belk HBg
          go_wp2_with fail
          refine (addBytes_any w9 wr.heap.size gb G1 _ ⟨none, 0, 0⟩ HG1.out.1 (by have h9 : G1.n = 0 + 1 := HG1.out.2; omega) HB.out.size).mono ?_
          rintro e wa ⟨rfl, G2, hG, hn2, hk⟩
          replace R1 := Lib.hid (HRk.out _ _ _ _ _ _ HG1.out.1 hk R1.out)
          replace R2 := Lib.hid (HRk.out _ _ _ _ _ _ HG1.out.1 hk R2.out)
          replace HB := Lib.hid (HBl.out _ _ _ _ HG1.out.1 hk HB.out)
          have HG2 := Lib.hid hG
          clear hG hn2 hk HG1
          have hRows : Rows8 wa wr.heap.size ([] ++ [⟨none, 0, 0⟩] ++ [⟨none, 0, 0⟩]) (fun k => ([] : List Int)) := by
            have two : ∀ (k : Nat) (s : Sl), ([] ++ [(⟨none, 0, 0⟩ : Sl)] ++ [⟨none, 0, 0⟩])[k]? = some s → (k = 0 ∧ s = ⟨none, 0, 0⟩) ∨ (k = 1 ∧ s = ⟨none, 0, 0⟩) := fun k s h => by
              rcases k with _ | _ | k
              · left; exact ⟨rfl, by simpa using h.symm⟩
              · right; exact ⟨rfl, by simpa using h.symm⟩
              · simp at h
            have sep := HAp.out
            refine ⟨fun k s h => ?_, fun j k s t i hj hk hne hs ht => ?_, fun k s h => ?_⟩
            · rcases two k s h with ⟨rfl, rfl⟩ | ⟨rfl, rfl⟩
              · exact R1.out
              · exact R2.out
            · rcases two j s hj with ⟨rfl, rfl⟩ | ⟨rfl, rfl⟩ <;> rcases two k t hk with ⟨rfl, rfl⟩ | ⟨rfl, rfl⟩
              · exact hne rfl
              · exact sep i hs ht
              · exact sep i ht hs
              · exact hne rfl
            · rcases two k s h with ⟨rfl, rfl⟩ | ⟨rfl, rfl⟩
              · show (0 : Nat) ≤ _; omega
              · show (0 : Nat) ≤ _; omega
          have HRs := Lib.hid hRows
          clear hRows R1 R2
          have HS0 : Hid ((fun W : World => Below wr.heap.size wr W) wa.drew) := Lib.hid (below_then HB.out (below_of_drewN _ wa 1))
          have HCd : Hid (∀ W : World, Below wr.heap.size wr W → W.cell? ⟨gd, 0, none⟩ = some (.slice Ad n1 cd)) := Lib.hid (fun W hW => by have h5 := (HWE.out.two.wd.2.1.lt); rw [hW.cell h5]; exact HC1.out)
          go_wp2_with fail
          refine wp_region_s (fun W : World => Below wr.heap.size wr W) [(0, true), (1, false), (2, true), (3, true), (5, true), (6, true), (7, true), (8, true), (9, true), (4, false), (10, true), (11, true), (12, true), (13, false), (14, true), (15, true)] (by kernel_rfl) (fun _ d _ _ _ h => by cases d <;> exact h) ?_
          simp only [List.map_cons, List.map_nil, nthOp_zero, nthOp_succ]
          refine wpS_take HS0 (by rfl) (by intro W hW; go_simp; try with_reducible rfl) ?_
          refine wpS_do fun K1 hK1 => ?_
          go_wp2_with fail
          refine (apart_any wa.drew wr.heap.size gb G2 _ _ (bag_kept HG2.out ((Kept.refl (fun _ => False) wa).drewN 1) (fun h => h) (fun _ _ h => h)) HRs.out.drew HB.out.size).mono ?_
          rintro e wb ⟨rfl, hbj⟩
          have HBb := Lib.hid ((below_then HB.out (below_of_drewN _ wa 1)).trans hbj)
          clear hbj
          go_wp2_with fail
          refine hK1.out _ _ HBb.out ?_
          clear hK1 K1
          replace HS0 : Hid ((fun W : World => Below wr.heap.size wr W) wb) := HBb
          refine wpS_take HS0 (by kernel_rfl) (by intro W hW; go_simp; try with_reducible rfl) ?_
          refine wpS_take HS0 (by kernel_rfl) (by intro W hW; go_simp; try with_reducible rfl) ?_
          refine wpS_take HS0 (by kernel_rfl) (by intro W hW; go_simp; try with_reducible rfl) ?_
          refine wpS_take HS0 (by kernel_rfl) (by intro W hW; go_simp; try with_reducible rfl) ?_
          refine wpS_take HS0 (by kernel_rfl) (by intro W hW; go_simp; try with_reducible rfl) ?_
          refine wpS_take HS0 (by kernel_rfl) (by intro W hW; have hc0 := HCd.out W hW; go_simp; try with_reducible rfl) ?_
          refine wpS_take HS0 (by kernel_rfl) (by intro W hW; go_simp; try with_reducible rfl) ?_
          try go_simp
          refine wpS_do fun K1 hK1 => ?_
          go_wp2_with fail
          refine (wlen_any wb _ g v ⟨sm, se, sx⟩ (HWE.out.later HBb.out).two.ws).mono ?_
          rintro e wc ⟨rfl, kc, rfl⟩
          rw [show (⟨sm, se, sx⟩ : Wr).xs.length = n1 from hn1]
          have HBc : Hid (Below wr.heap.size wr (wb.drewN kc)) := Lib.hid (below_then HBb.out (below_of_drewN _ wb kc))
          go_wp2_with fail
          refine hK1.out _ _ HBc.out ?_
          clear hK1 K1
          replace HS0 : Hid ((fun W : World => Below wr.heap.size wr W) (wb.drewN kc)) := HBc
          refine wpS_take HS0 (by kernel_rfl) (by intro W hW; go_simp; try with_reducible rfl) ?_
          refine wpS_take HS0 (by kernel_rfl) (by intro W hW; go_simp; try with_reducible rfl) ?_
          refine wpS_take HS0 (by kernel_rfl) (by intro W hW; go_simp; try with_reducible rfl) ?_
          try go_simp
          refine wpS_do fun K1 hK1 => ?_
          go_wp2_with fail
          refine (lives_any _).mono ?_
          rintro e wl ⟨rfl, hbl⟩
          have HBl2 := Lib.hid (below_then HBc.out hbl)
          go_wp2_with fail
          refine hK1.out _ _ HBl2.out ?_
          clear hK1 K1
          replace HS0 : Hid ((fun W : World => Below wr.heap.size wr W) wl) := HBl2
          refine wpS_take HS0 (by kernel_rfl) (by intro W hW; go_simp; try with_reducible rfl) ?_
          refine wpS_take HS0 (by kernel_rfl) (by intro W hW; go_simp; try with_reducible rfl) ?_
          try go_simp
          refine wpS_nil ?_
          go_wp2_with fail
          try go_simp
          go_wp2_with fail
          go_ret
          exact ⟨rfl, below_then HWE.out.b HBl2.out⟩
end Go.Proofs.YtlnkjmjddecjdaaDoor
