/-
  Decode. Printed by gen_pk24.py.
-/
import Derived.Test.YtbkejlalbjomkaaPkE
namespace Go.Proofs.Ytbkejlalbjomkaa
set_option linter.unusedVariables false
open Go.RowKit
set_option maxRecDepth 100000 in
set_option maxHeartbeats 16000000 in
theorem dec_main (A : Option Addr) (n c : Nat) (xs : List Int) (w : World) (hx : Reads w w.heap.size 1 A n (u8s xs)) (ho : Oct xs) (hc : n ≤ c) (hm : c ≤ 9223372036854775807) (hn : n ≤ 1073741824) (he : (pkLen xs).2 = 0) :
    Calls Try.prog 13 #[.slice A n c] w fun e w' => DecP w w' xs e := by
  have HN := Lib.hid (de3_new w)
  have hl := hx.u8len
  have HX := Lib.hid hx
  have HO := Lib.hid ho
  have HE := Lib.hid he
  obtain ⟨h24, hle⟩ := pkLen_ok he
  obtain ⟨m, hm2⟩ : ∃ m : Nat, (pkLen xs).1 = m := ⟨(pkLen xs).1.toNat, by omega⟩
  have HM := Lib.hid hm2
  have HL := Lib.hid hl
  rw [hm2] at h24 hle
  have hmn : m ≤ n := by omega
  have hm24 : 24 ≤ m := by omega
  have hmnI : (m : Int) ≤ (n : Int) := by omega
  have hmcI : (m : Int) ≤ (c : Int) := by omega
  clear hx ho h24 hle hl
  go_enter_defers Try.func13, Try.ntmps13
  go_wp2_with fail
  unfold zPk zAu at HN
  obtain ⟨gp, hgp⟩ : ∃ gp, w.heap.size = gp := ⟨_, rfl⟩
  obtain ⟨ga, hga⟩ : ∃ ga, gp + 1 = ga := ⟨_, rfl⟩
  obtain ⟨ge, hge⟩ : ∃ ge, ga + 1 = ge := ⟨_, rfl⟩
  have HB1 := Lib.hid HN.out.2
  have HD1 := Lib.hid HN.out.1
  clear HN
  rw [hgp, hga, hge] at HD1
  rw [hgp, hga, hge]
  have HG := Lib.hid (And.intro hgp (And.intro hga hge))
  clear hgp hga hge
  generalize ((w.alloc (.cells #[.int .u8 0, .int .u32 0, .int .u32 0, .int .u32 0, .int .u16 0, .int .u8 0, .int .u8 0, .int .u32 0, .int .u32 0, .int .u32 0, .slice none 0 0, .int .u16 0, .int .u8 0, .int .u8 0, .int .u32 0, .slice none 0 0, .slice none 0 0, .slice none 0 0, .slice none 0 0] 33)).alloc (.cells #[.int .u16 0, .int .u8 0, .int .u8 0, .int .u8 0, .int .u8 0, .int .u8 0, .int .u8 0, .int .u8 0, .int .u8 0] 44)).alloc (.cells #[.int .i64 0] 40) = w1 at *
  have hlen := length_any A n c xs w1 _ (HX.out.later HB1.out) HO.out hc hm
  rw [show pkLen xs = ((m : Int), 0) from Prod.ext hm2 he] at hlen
  clear hm2 he
  refine hlen.mono ?_
  clear hlen
  rintro e w2 ⟨rfl, kd, rfl⟩
  have HD := Lib.hid (HD1.out.later (below_of_drewN _ w1 kd))
  have HB := Lib.hid (HB1.out.trans (below_of_drewN _ w1 kd))
  generalize w1.drewN kd = w2 at *
  have f0 := HD.out.e.frozen 0
  have c0 := HD.out.e.cell 0
  simp at c0
  have HD2 := Lib.hid (HD.out.setE 0)
  have HB2 := Lib.hid (HB.out.setCell (p := ⟨ge, 0, none⟩) (show w.heap.size ≤ ge by have := HG.out; omega) (.int .i64 0))
  have HX2 := Lib.hid ((HX.out.later HB2.out).u8pre hmn)
  have c1 := HD2.out.e.cell 0
  simp at c1
  clear HD1 HB1 HD HB
  go_wp2_with fail
  generalize w2.setCell ⟨ge, 0, none⟩ (.int .i64 0) = v0 at *
  clear f0 c0 c1
  refine (read_new A m c (xs.take m) v0 HX2.out (by omega)).mono ?_
  rintro e W ⟨g, A', c', rfl, hrs, hg, hb, hA'⟩
  have HF : Hid (DeF w W g gp ga ge ⟨A', m, c'⟩ ⟨xs.take m, 0, 0⟩ _ _) := Lib.hid ⟨⟨hrs, HO.out.take m, Nat.le_trans HB2.out.size hg, below_then HB2.out hb⟩, HD2.out.later hb, by have := HG.out; omega, by have := HG.out; omega, by have := HG.out; omega, fun _ ad e => by
    have h1 := hA' ad e; have h2 := HD2.out.p.lt; have h3 := HD2.out.a.lt; have h4 := HD2.out.e.lt; omega, by have h2 := HD2.out.p.lt; have h3 := HD2.out.a.lt; have h4 := HD2.out.e.lt; omega⟩
  obtain ⟨ys, hys⟩ : ∃ ys, xs.take m = ys := ⟨_, rfl⟩
  rw [hys] at HF
  have hyl : ys.length = m := by rw [← hys, List.length_take, HL.out]; omega
  have HY := Lib.hid hys
  obtain ⟨q, hq⟩ : ∃ q : Rq, q = ⟨A', m, c'⟩ := ⟨_, rfl⟩
  rw [← hq] at HF
  clear hrs hg hb hA' HD2 HB2 HX2 hys hq
  go_wp2_with fail
  refine (rr_numx w W g q _ HF.out.r 1 (by decide) (by decide)).mono ?_
  rintro e W1 ⟨x1, r1, rfl, hN, hr, hk⟩
  have hx1 : 0 ≤ x1 ∧ x1 < 256 := ⟨hN.lo, by have := hN.hi; omega⟩
  obtain ⟨hv1, rfl⟩ := hN.fit rfl (by simp only; omega)
  have HV1 : Hid (x1 = be ((ys.drop 0).take 1)) := hv1
  replace HF : Hid (DeF w W1 g gp ga ge q ⟨ys, 1, 0⟩ _ _) := Lib.hid (HF.out.step hk hr)
  clear hN hr hk hv1
  go_wp2_with fail
  refine (rr_numx w W1 g q _ HF.out.r 1 (by decide) (by decide)).mono ?_
  rintro e W2 ⟨x2, r2, rfl, hN, hr, hk⟩
  have hx2 : 0 ≤ x2 ∧ x2 < 256 := ⟨hN.lo, by have := hN.hi; omega⟩
  obtain ⟨hv2, rfl⟩ := hN.fit rfl (by simp only; omega)
  have HV2 : Hid (x2 = be ((ys.drop 1).take 1)) := hv2
  replace HF : Hid (DeF w W2 g gp ga ge q ⟨ys, 2, 0⟩ _ _) := Lib.hid (HF.out.step hk hr)
  clear hN hr hk hv2
  have wx2 : IntKind.u8.wrap x2 = x2 := by simp [IntKind.wrap, IntKind.bits, IntKind.signed]; omega
  go_wp2_with (refine wpList_store_row rfl 33 _ _ rfl gp #[.int .u8 x2, .int .u32 0, .int .u32 0, .int .u32 0, .int .u16 0, .int .u8 0, .int .u8 0, .int .u32 0, .int .u32 0, .int .u32 0, .slice none 0 0, .int .u16 0, .int .u8 0, .int .u8 0, .int .u32 0, .slice none 0 0, .slice none 0 0, .slice none 0 0, .slice none 0 0] rfl rfl 33 _ HF.out.d.p info_pk rfl (by simp [Value.oneCell']) ?_; replace HF := Lib.hid (HF.out.setP #[.int .u8 x2, .int .u32 0, .int .u32 0, .int .u32 0, .int .u16 0, .int .u8 0, .int .u8 0, .int .u32 0, .int .u32 0, .int .u32 0, .slice none 0 0, .int .u16 0, .int .u8 0, .int .u8 0, .int .u32 0, .slice none 0 0, .slice none 0 0, .slice none 0 0, .slice none 0 0]); generalize W2.setRow gp #[.int .u8 x2, .int .u32 0, .int .u32 0, .int .u32 0, .int .u16 0, .int .u8 0, .int .u8 0, .int .u32 0, .int .u32 0, .int .u32 0, .slice none 0 0, .int .u16 0, .int .u8 0, .int .u8 0, .int .u32 0, .slice none 0 0, .slice none 0 0, .slice none 0 0, .slice none 0 0] = V2 at *)
  refine (rr_numx w V2 g q _ HF.out.r 2 (by decide) (by decide)).mono ?_
  rintro e W3 ⟨x3, r3, rfl, hN, hr, hk⟩
  have hx3 : 0 ≤ x3 ∧ x3 < 65536 := ⟨hN.lo, by have := hN.hi; omega⟩
  obtain ⟨hv3, rfl⟩ := hN.fit rfl (by simp only; omega)
  have HV3 : Hid (x3 = be ((ys.drop 2).take 2)) := hv3
  replace HF : Hid (DeF w W3 g gp ga ge q ⟨ys, 4, 0⟩ _ _) := Lib.hid (HF.out.step hk hr)
  clear hN hr hk hv3
  go_wp2_with fail
  refine (rr_numx w W3 g q _ HF.out.r 4 (by decide) (by decide)).mono ?_
  rintro e W4 ⟨x4, r4, rfl, hN, hr, hk⟩
  have hx4 : 0 ≤ x4 ∧ x4 < 4294967296 := ⟨hN.lo, by have := hN.hi; omega⟩
  obtain ⟨hv4, rfl⟩ := hN.fit rfl (by simp only; omega)
  have HV4 : Hid (x4 = be ((ys.drop 4).take 4)) := hv4
  replace HF : Hid (DeF w W4 g gp ga ge q ⟨ys, 8, 0⟩ _ _) := Lib.hid (HF.out.step hk hr)
  clear hN hr hk hv4
  go_wp2_with fail
  refine (rr_numx w W4 g q _ HF.out.r 4 (by decide) (by decide)).mono ?_
  rintro e W5 ⟨x5, r5, rfl, hN, hr, hk⟩
  have hx5 : 0 ≤ x5 ∧ x5 < 4294967296 := ⟨hN.lo, by have := hN.hi; omega⟩
  obtain ⟨hv5, rfl⟩ := hN.fit rfl (by simp only; omega)
  have HV5 : Hid (x5 = be ((ys.drop 8).take 4)) := hv5
  replace HF : Hid (DeF w W5 g gp ga ge q ⟨ys, 12, 0⟩ _ _) := Lib.hid (HF.out.step hk hr)
  clear hN hr hk hv5
  have f1 := HF.out.d.p.frozen 1
  have c1 := HF.out.d.p.cell 1
  simp at c1
  replace HF := Lib.hid (HF.out.putP 1 (.int .u32 x4))
  have f2 := HF.out.d.p.frozen 2
  have c2 := HF.out.d.p.cell 2
  simp at c2
  replace HF := Lib.hid (HF.out.putP 2 (.int .u32 x5))
  go_wp2_with fail
  clear f1 c1 f2 c2
  generalize (W5.setCell ⟨gp, 1, none⟩ (.int .u32 x4)).setCell ⟨gp, 2, none⟩ (.int .u32 x5) = V5 at *
  replace HF : Hid (DeF w V5 g gp ga ge q ⟨ys, 12, 0⟩ (p0 x2 x4 x5).C _) := HF
  refine (rr_numx w V5 g q _ HF.out.r 2 (by decide) (by decide)).mono ?_
  rintro e W6 ⟨x6, r6, rfl, hN, hr, hk⟩
  have hx6 : 0 ≤ x6 ∧ x6 < 65536 := ⟨hN.lo, by have := hN.hi; omega⟩
  obtain ⟨hv6, rfl⟩ := hN.fit rfl (by simp only; omega)
  have HV6 : Hid (x6 = be ((ys.drop 12).take 2)) := hv6
  replace HF : Hid (DeF w W6 g gp ga ge q ⟨ys, 14, 0⟩ _ _) := Lib.hid (HF.out.step hk hr)
  clear hN hr hk hv6
  go_wp2_with fail
  refine (rr_numx w W6 g q _ HF.out.r 2 (by decide) (by decide)).mono ?_
  rintro e W7 ⟨x7, r7, rfl, hN, hr, hk⟩
  have hx7 : 0 ≤ x7 ∧ x7 < 65536 := ⟨hN.lo, by have := hN.hi; omega⟩
  obtain ⟨hv7, rfl⟩ := hN.fit rfl (by simp only; omega)
  have HV7 : Hid (x7 = be ((ys.drop 14).take 2)) := hv7
  replace HF : Hid (DeF w W7 g gp ga ge q ⟨ys, 16, 0⟩ _ _) := Lib.hid (HF.out.step hk hr)
  clear hN hr hk hv7
  have wx7 : IntKind.u16.wrap x7 = x7 := by simp [IntKind.wrap, IntKind.bits, IntKind.signed]; omega
  have f1 := HF.out.d.a.frozen 0
  have c1 := HF.out.d.a.cell 0
  simp at c1
  replace HF := Lib.hid (HF.out.putA 0 (.int .u16 x7))
  go_wp2_with fail
  clear f1 c1
  generalize W7.setCell ⟨ga, 0, none⟩ (.int .u16 x7) = V7 at *
  replace HF : Hid (DeF w V7 g gp ga ge q ⟨ys, 16, 0⟩ (p0 x2 x4 x5).C #[.int .u16 x7, .int .u8 0, .int .u8 0, .int .u8 0, .int .u8 0, .int .u8 0, .int .u8 0, .int .u8 0, .int .u8 0]) := HF
  refine Code.wp_mono (Q := DcQ w g gp ga ge A n c m q ys x2 x4 x5 x7) ?_ ?_
  · rintro e act W8 ⟨rfl, h⟩
    obtain ⟨u9, u10, u11, u12, u13, u14, u15, u16, h⟩ := h
    obtain ⟨u17, u18, u19, u20, u21, u22, u23, u24, h⟩ := h
    obtain ⟨u25, u26, u27, u28, u29, u30, u31, u32, h⟩ := h
    obtain ⟨u33, u34, u35, u36, u37, u38, u39, u40, h⟩ := h
    obtain ⟨u41, u42, u43, u44, u45, u46, u47, u48, h⟩ := h
    obtain ⟨hact, hF⟩ := h
    subst hact
    replace HF := Lib.hid hF
    clear hF
    go_simp

    have E2 : Hid (x2 = tyAt xs) := Lib.hid (by rw [HV2.out, ← HY.out, bytes_at (by omega)]; rfl)
    have E4 : Hid (x4 = be ((xs.drop 4).take 4)) := Lib.hid (by rw [HV4.out, ← HY.out, bytes_at (by omega)])
    have E5 : Hid (x5 = be ((xs.drop 8).take 4)) := Lib.hid (by rw [HV5.out, ← HY.out, bytes_at (by omega)])
    have E7 : Hid (x7 = kdAt xs) := Lib.hid (by rw [HV7.out, ← HY.out, bytes_at (by omega)]; rfl)
    have EY : Hid (ys = pkB xs) := Lib.hid (by rw [← HY.out]; unfold pkB; rw [HM.out]; rfl)
    have EA : Hid (auL x7 ((ys.drop 16).take 8) = auAt xs) := Lib.hid (by unfold auAt; rw [← E7.out, ← HY.out, bytes_at (by omega)])
    have HT : Hid (1 ≤ x2 ∧ x2 ≤ 5) := Lib.hid (by rw [E2.out]; exact pkLen_type HE.out)
    have NO : Hid (¬ partOk ys x2 → ¬ DecOk xs) := Lib.hid (fun h hd => h (by rw [EY.out, E2.out]; exact hd.part))
    obtain ⟨au, hau⟩ : ∃ au, auL x7 ((ys.drop 16).take 8) = au := ⟨_, rfl⟩
    have hak : au.k = x7 := by rw [← hau]; rfl
    rw [hau] at EA HF
    have HK7 : Hid (au.k = x7) := hak
    clear HV1 HV2 HV3 HV4 HV5 HV6 HV7 hau hak
    have c1 : W8.cell? ⟨ga, 0, none⟩ = some (.int .u16 x7) := by have := HF.out.d.a.cell 0; rw [← HK7.out]; simpa using this
    by_cases hk2 : 2 < x7
    · have hmi := fun W => mk_errno 25 W
      have d2 : decide ((2 : Int) < x7) = true := decide_eq_true hk2
      go_wp2_with fail
      exact dec_throw w W8 gp ga ge _ _ 25 xs _ HF.out.d rfl rfl HF.out.r.b HF.out.bp HF.out.ba HF.out.be (fun hd => by have := hd.kind; rw [← E7.out] at this; omega) (by decide) rfl rfl rfl
    have d2 : decide ((2 : Int) < x7) = false := decide_eq_false hk2
    by_cases hk3 : x7 = 2
    · have OK : Hid (partOk ys x2 → DecOk xs) := Lib.hid (fun h => ⟨HE.out, by rw [← E7.out]; omega, fun h2 => absurd (E7.out.symm.trans hk3) h2, fun h2 => absurd (E7.out.symm.trans hk3) h2, by rw [← EY.out, ← E2.out]; exact h⟩)
      have d3 : (x7 != 2) = false := by simpa using hk3
      clear hk3
      have hb6 : Below W8.heap.size W8 ((W8.alloc (.cells #[.pointer (some ⟨g, 0, none⟩)] 101)).alloc (.cells #[.nilFunc, .func (.func 53) #[.agg #[.pointer (some ⟨g, 0, none⟩)]] #[], .func (.func 54) #[.agg #[.pointer (some ⟨g, 0, none⟩)]] #[], .func (.func 55) #[.agg #[.pointer (some ⟨g, 0, none⟩)]] #[], .func (.func 56) #[.agg #[.pointer (some ⟨g, 0, none⟩)]] #[], .func (.func 57) #[.agg #[.pointer (some ⟨g, 0, none⟩)]] #[]] 103)) := ((Below.refl _ _).alloc (Nat.le_refl _) _).alloc (by rw [World.size_alloc]; omega) _
      have HF6 := Lib.hid (HF.out.later hb6)
      have HS6 : Hid (SiBlk ((W8.alloc (.cells #[.pointer (some ⟨g, 0, none⟩)] 101)).alloc (.cells #[.nilFunc, .func (.func 53) #[.agg #[.pointer (some ⟨g, 0, none⟩)]] #[], .func (.func 54) #[.agg #[.pointer (some ⟨g, 0, none⟩)]] #[], .func (.func 55) #[.agg #[.pointer (some ⟨g, 0, none⟩)]] #[], .func (.func 56) #[.agg #[.pointer (some ⟨g, 0, none⟩)]] #[], .func (.func 57) #[.agg #[.pointer (some ⟨g, 0, none⟩)]] #[]] 103)) W8.heap.size g) := Lib.hid ((Blk.new W8 101 _).alloc _)
      have HN6 : Hid (Blk ((W8.alloc (.cells #[.pointer (some ⟨g, 0, none⟩)] 101)).alloc (.cells #[.nilFunc, .func (.func 53) #[.agg #[.pointer (some ⟨g, 0, none⟩)]] #[], .func (.func 54) #[.agg #[.pointer (some ⟨g, 0, none⟩)]] #[], .func (.func 55) #[.agg #[.pointer (some ⟨g, 0, none⟩)]] #[], .func (.func 56) #[.agg #[.pointer (some ⟨g, 0, none⟩)]] #[], .func (.func 57) #[.agg #[.pointer (some ⟨g, 0, none⟩)]] #[]] 103)) (W8.heap.size + 1) 103 (sC g)) := Lib.hid (new_at _ _ _)
      have HGs : Hid (W8.heap.size ≠ g ∧ W8.heap.size ≠ gp) := Lib.hid ⟨by have := HF.out.r.rs.blk.lt; omega, by have := HF.out.d.p.lt; omega⟩
      have hcf := enter_q x2 HT.out.1 HT.out.2
      have hx6 : x2 < 6 := by have := HT.out; omega
      clear hb6 HF
      go_wp2_with (refine wpList_store_row rfl 103 _ _ rfl (W8.heap.size + 1) #[.nilFunc, .func (.func 53) #[.agg #[.pointer (some ⟨g, 0, none⟩)]] #[], .func (.func 54) #[.agg #[.pointer (some ⟨g, 0, none⟩)]] #[], .func (.func 55) #[.agg #[.pointer (some ⟨g, 0, none⟩)]] #[], .func (.func 56) #[.agg #[.pointer (some ⟨g, 0, none⟩)]] #[], .func (.func 57) #[.agg #[.pointer (some ⟨g, 0, none⟩)]] #[]] rfl rfl 103 _ (new_at W8 _ _) info_s6 rfl (by simp [Value.oneCell']) ?_; rw [setRow_second]; generalize W8.heap.size + 1 = gf at *; generalize W8.heap.size = gs at *; generalize ((W8.alloc (.cells #[.pointer (some ⟨g, 0, none⟩)] 101)).alloc (.cells #[.nilFunc, .func (.func 53) #[.agg #[.pointer (some ⟨g, 0, none⟩)]] #[], .func (.func 54) #[.agg #[.pointer (some ⟨g, 0, none⟩)]] #[], .func (.func 55) #[.agg #[.pointer (some ⟨g, 0, none⟩)]] #[], .func (.func 56) #[.agg #[.pointer (some ⟨g, 0, none⟩)]] #[], .func (.func 57) #[.agg #[.pointer (some ⟨g, 0, none⟩)]] #[]] 103)) = V9 at *; have t0 : V9.cell? ⟨gp, 0, none⟩ = some (.int .u8 x2) := (by exact HF6.out.d.p.cell 0); have tf : V9.cell? ⟨gf, x2.toNat, none⟩ = some (.func (.func (qN x2)) #[.agg #[.pointer (some ⟨g, 0, none⟩)]] #[]) := (by rw [HN6.out.cell]; exact sC_at g x2 HT.out.1 HT.out.2))
      refine (partR_any w V9 g gp q ys x2 x4 x5 HT.out.1 HT.out.2 HF6.out.pkf (by omega) (by omega)).mono ?_
      rintro e V10 (⟨p, s, rfl, hf, hk, hy, hok, hno⟩ | ⟨hno, ⟨k, hk0, rfl⟩, hfl⟩)
      rotate_left
      · obtain ⟨hb10, hk10, C10, hC10, hCs⟩ := hfl
        have HD10 := Lib.hid (HF6.out.fl hk10 hC10)
        have HQ := Lib.hid (And.intro hb10 (And.intro hCs (And.intro hk0 (NO.out hno))))
        clear hb10 hk10 hC10 hCs hk0 hno
        go_wp2_with fail
        exact dec_throw w V10 gp ga ge _ _ k xs _ HD10.out HQ.out.2.1 rfl HQ.out.1 HF6.out.bp HF6.out.ba HF6.out.be HQ.out.2.2.2 HQ.out.2.2.1 rfl rfl rfl
      have HD10 := Lib.hid (HF6.out.fl hk hf.k)
      have HB10 := Lib.hid (And.intro hf.r (hy.mono HF6.out.r.b.size))
      have HH := Lib.hid (And.intro hok hno)
      have HS10 : Hid (SiBlk V10 gs g) := Lib.hid (Blk.kept HS6.out hk (fun e => by rcases e with e | e; exact HGs.out.1 e; exact HGs.out.2 e))
      have s0 : V10.cell? ⟨gs, 0, none⟩ = some (.pointer (some ⟨g, 0, none⟩)) := by have := HS10.out.cell 0; exact this
      clear hf hk hy hok hno t0 tf hcf
      go_wp2_with fail
      refine (whole_s w V10 g q s HB10.out.1 true).mono ?_
      rintro e V11 ⟨hor, hb11⟩
      have HD11 := Lib.hid (HD10.out.later hb11)
      have HB11 := Lib.hid (And.intro (below_then HB10.out.1.b hb11) (HB10.out.2.later hb11))
      clear hb11 HD10 HB10 HS10 s0
      by_cases hs : s.e = 0
      rotate_left
      · obtain rfl : e = thrown 22 := by
          rcases hor with ⟨h, _⟩ | ⟨_, h⟩
          · exact absurd h.2 hs
          · exact h
        have HNd := Lib.hid (NO.out (HH.out.2 hs))
        clear hor hs
        go_wp2_with fail
        exact dec_throw w V11 gp ga ge _ _ 22 xs _ HD11.out rfl rfl HB11.out.1 HF6.out.bp HF6.out.ba HF6.out.be HNd.out (by decide) rfl rfl rfl
      obtain rfl : e = .returned (.tuple #[]) := by
        rcases hor with ⟨_, h⟩ | ⟨h, _⟩
        · exact h
        · exact absurd ⟨rfl, hs⟩ h
      have HYs := Lib.hid (HH.out.1 hs)
      have HD12 := Lib.hid (HD11.out.setP p.C)
      have HD13 := Lib.hid (HD12.out.setA au.C)
      have HD14 := Lib.hid (HD13.out.setE 0)
      have HK14 := Lib.hid (kept_three V11 gp ga ge p.C au.C (.int .i64 0))
      have f1 := HD13.out.e.frozen 0
      have y1 := HD13.out.e.cell 0
      simp at y1
      clear hor hs HH
      go_wp2_with (first
        | (refine wpList_load_row rfl 33 _ rfl gp rfl 33 p.C (0, 0) _ HD11.out.p Try.underlying33 rfl info_pk ?_)
        | (refine wpList_load_row rfl 44 _ rfl ga rfl 44 au.C (0, 0) _ HD11.out.a Try.underlying44 rfl info_au ?_)
        | (refine wpList_store_row rfl 33 _ _ rfl gp p.C rfl rfl 33 _ HD11.out.p info_pk rfl (one_PA p) ?_)
        | (refine wpList_store_row rfl 44 _ _ rfl ga au.C rfl rfl 44 _ HD12.out.a info_au rfl (one_Au au) ?_))
      exact dec_done w _ gp ga ge p au xs _ HD14.out (OK.out HYs.out.1) EA.out (HB11.out.2.far HD11.out HK14.out) (by rw [← EY.out, ← E2.out, ← E4.out, ← E5.out]; exact HYs.out.2) (HB11.out.1.trans (HK14.out.below (fun i hi => by rcases hi with rfl | rfl | rfl; exact HF6.out.bp; exact HF6.out.ba; exact HF6.out.be) HB11.out.1.size)) rfl rfl rfl
    have d3 : (x7 != 2) = true := by simpa using hk3
    by_cases hmn2 : m = n
    rotate_left
    · have d4 : ((m : Int) != (n : Int)) = true := by simp; omega
      have hmi := fun W => mk_errno 22 W
      go_wp2_with fail
      exact dec_throw w W8 gp ga ge _ _ 22 xs _ HF.out.d rfl rfl HF.out.r.b HF.out.bp HF.out.ba HF.out.be (fun hd => by have := hd.all (by rw [← E7.out]; exact hk3); rw [HM.out, HL.out] at this; omega) (by decide) rfl rfl rfl
    have d4 : ((m : Int) != (n : Int)) = false := by simp; omega
    have HRg := Lib.hid (pright_any A n c xs W8 (HX.out.later HF.out.r.b) HO.out hc hm (by omega))
    cases hrg : pkRight xs with
    | false =>
      have HNr := Lib.hid hrg
      rw [hrg] at HRg
      have hmi := fun W => mk_errno 23 W
      clear hrg
      go_wp2_with fail
      refine HRg.out.mono ?_
      rintro e W9 ⟨rfl, hb9⟩
      replace HF := Lib.hid (HF.out.later hb9)
      have c1 : W9.cell? ⟨ga, 0, none⟩ = some (.int .u16 x7) := by have := HF.out.d.a.cell 0; rw [← HK7.out]; simpa using this
      clear hb9 HRg
      go_wp2_with fail
      exact dec_throw w W9 gp ga ge _ _ 23 xs _ HF.out.d rfl rfl HF.out.r.b HF.out.bp HF.out.ba HF.out.be (fun hd => by have := hd.right (by rw [← E7.out]; exact hk3); rw [HNr.out] at this; cases this) (by decide) rfl rfl rfl
    | true =>
      have OK : Hid (partOk ys x2 → DecOk xs) := Lib.hid (fun h => ⟨HE.out, by rw [← E7.out]; omega, fun _ => by rw [HM.out, HL.out, hmn2], fun _ => hrg, by rw [← EY.out, ← E2.out]; exact h⟩)
      rw [hrg] at HRg
      clear hrg
      go_wp2_with fail
      refine HRg.out.mono ?_
      rintro e W9 ⟨rfl, hb9⟩
      replace HF := Lib.hid (HF.out.later hb9)
      have c1 : W9.cell? ⟨ga, 0, none⟩ = some (.int .u16 x7) := by have := HF.out.d.a.cell 0; rw [← HK7.out]; simpa using this
      clear hb9 HRg
      have hb6 : Below W9.heap.size W9 ((W9.alloc (.cells #[.pointer (some ⟨g, 0, none⟩)] 101)).alloc (.cells #[.nilFunc, .func (.func 53) #[.agg #[.pointer (some ⟨g, 0, none⟩)]] #[], .func (.func 54) #[.agg #[.pointer (some ⟨g, 0, none⟩)]] #[], .func (.func 55) #[.agg #[.pointer (some ⟨g, 0, none⟩)]] #[], .func (.func 56) #[.agg #[.pointer (some ⟨g, 0, none⟩)]] #[], .func (.func 57) #[.agg #[.pointer (some ⟨g, 0, none⟩)]] #[]] 103)) := ((Below.refl _ _).alloc (Nat.le_refl _) _).alloc (by rw [World.size_alloc]; omega) _
      have HF6 := Lib.hid (HF.out.later hb6)
      have HS6 : Hid (SiBlk ((W9.alloc (.cells #[.pointer (some ⟨g, 0, none⟩)] 101)).alloc (.cells #[.nilFunc, .func (.func 53) #[.agg #[.pointer (some ⟨g, 0, none⟩)]] #[], .func (.func 54) #[.agg #[.pointer (some ⟨g, 0, none⟩)]] #[], .func (.func 55) #[.agg #[.pointer (some ⟨g, 0, none⟩)]] #[], .func (.func 56) #[.agg #[.pointer (some ⟨g, 0, none⟩)]] #[], .func (.func 57) #[.agg #[.pointer (some ⟨g, 0, none⟩)]] #[]] 103)) W9.heap.size g) := Lib.hid ((Blk.new W9 101 _).alloc _)
      have HN6 : Hid (Blk ((W9.alloc (.cells #[.pointer (some ⟨g, 0, none⟩)] 101)).alloc (.cells #[.nilFunc, .func (.func 53) #[.agg #[.pointer (some ⟨g, 0, none⟩)]] #[], .func (.func 54) #[.agg #[.pointer (some ⟨g, 0, none⟩)]] #[], .func (.func 55) #[.agg #[.pointer (some ⟨g, 0, none⟩)]] #[], .func (.func 56) #[.agg #[.pointer (some ⟨g, 0, none⟩)]] #[], .func (.func 57) #[.agg #[.pointer (some ⟨g, 0, none⟩)]] #[]] 103)) (W9.heap.size + 1) 103 (sC g)) := Lib.hid (new_at _ _ _)
      have HGs : Hid (W9.heap.size ≠ g ∧ W9.heap.size ≠ gp) := Lib.hid ⟨by have := HF.out.r.rs.blk.lt; omega, by have := HF.out.d.p.lt; omega⟩
      have hcf := enter_q x2 HT.out.1 HT.out.2
      have hx6 : x2 < 6 := by have := HT.out; omega
      clear hb6 HF
      go_wp2_with (refine wpList_store_row rfl 103 _ _ rfl (W9.heap.size + 1) #[.nilFunc, .func (.func 53) #[.agg #[.pointer (some ⟨g, 0, none⟩)]] #[], .func (.func 54) #[.agg #[.pointer (some ⟨g, 0, none⟩)]] #[], .func (.func 55) #[.agg #[.pointer (some ⟨g, 0, none⟩)]] #[], .func (.func 56) #[.agg #[.pointer (some ⟨g, 0, none⟩)]] #[], .func (.func 57) #[.agg #[.pointer (some ⟨g, 0, none⟩)]] #[]] rfl rfl 103 _ (new_at W9 _ _) info_s6 rfl (by simp [Value.oneCell']) ?_; rw [setRow_second]; generalize W9.heap.size + 1 = gf at *; generalize W9.heap.size = gs at *; generalize ((W9.alloc (.cells #[.pointer (some ⟨g, 0, none⟩)] 101)).alloc (.cells #[.nilFunc, .func (.func 53) #[.agg #[.pointer (some ⟨g, 0, none⟩)]] #[], .func (.func 54) #[.agg #[.pointer (some ⟨g, 0, none⟩)]] #[], .func (.func 55) #[.agg #[.pointer (some ⟨g, 0, none⟩)]] #[], .func (.func 56) #[.agg #[.pointer (some ⟨g, 0, none⟩)]] #[], .func (.func 57) #[.agg #[.pointer (some ⟨g, 0, none⟩)]] #[]] 103)) = V9 at *; have t0 : V9.cell? ⟨gp, 0, none⟩ = some (.int .u8 x2) := (by exact HF6.out.d.p.cell 0); have tf : V9.cell? ⟨gf, x2.toNat, none⟩ = some (.func (.func (qN x2)) #[.agg #[.pointer (some ⟨g, 0, none⟩)]] #[]) := (by rw [HN6.out.cell]; exact sC_at g x2 HT.out.1 HT.out.2))
      refine (partR_any w V9 g gp q ys x2 x4 x5 HT.out.1 HT.out.2 HF6.out.pkf (by omega) (by omega)).mono ?_
      rintro e V10 (⟨p, s, rfl, hf, hk, hy, hok, hno⟩ | ⟨hno, ⟨k, hk0, rfl⟩, hfl⟩)
      rotate_left
      · obtain ⟨hb10, hk10, C10, hC10, hCs⟩ := hfl
        have HD10 := Lib.hid (HF6.out.fl hk10 hC10)
        have HQ := Lib.hid (And.intro hb10 (And.intro hCs (And.intro hk0 (NO.out hno))))
        clear hb10 hk10 hC10 hCs hk0 hno
        go_wp2_with fail
        exact dec_throw w V10 gp ga ge _ _ k xs _ HD10.out HQ.out.2.1 rfl HQ.out.1 HF6.out.bp HF6.out.ba HF6.out.be HQ.out.2.2.2 HQ.out.2.2.1 rfl rfl rfl
      have HD10 := Lib.hid (HF6.out.fl hk hf.k)
      have HB10 := Lib.hid (And.intro hf.r (hy.mono HF6.out.r.b.size))
      have HH := Lib.hid (And.intro hok hno)
      have HS10 : Hid (SiBlk V10 gs g) := Lib.hid (Blk.kept HS6.out hk (fun e => by rcases e with e | e; exact HGs.out.1 e; exact HGs.out.2 e))
      have s0 : V10.cell? ⟨gs, 0, none⟩ = some (.pointer (some ⟨g, 0, none⟩)) := by have := HS10.out.cell 0; exact this
      clear hf hk hy hok hno t0 tf hcf
      go_wp2_with fail
      refine (whole_s w V10 g q s HB10.out.1 true).mono ?_
      rintro e V11 ⟨hor, hb11⟩
      have HD11 := Lib.hid (HD10.out.later hb11)
      have HB11 := Lib.hid (And.intro (below_then HB10.out.1.b hb11) (HB10.out.2.later hb11))
      clear hb11 HD10 HB10 HS10 s0
      by_cases hs : s.e = 0
      rotate_left
      · obtain rfl : e = thrown 22 := by
          rcases hor with ⟨h, _⟩ | ⟨_, h⟩
          · exact absurd h.2 hs
          · exact h
        have HNd := Lib.hid (NO.out (HH.out.2 hs))
        clear hor hs
        go_wp2_with fail
        exact dec_throw w V11 gp ga ge _ _ 22 xs _ HD11.out rfl rfl HB11.out.1 HF6.out.bp HF6.out.ba HF6.out.be HNd.out (by decide) rfl rfl rfl
      obtain rfl : e = .returned (.tuple #[]) := by
        rcases hor with ⟨_, h⟩ | ⟨h, _⟩
        · exact h
        · exact absurd ⟨rfl, hs⟩ h
      have HYs := Lib.hid (HH.out.1 hs)
      have HD12 := Lib.hid (HD11.out.setP p.C)
      have HD13 := Lib.hid (HD12.out.setA au.C)
      have HD14 := Lib.hid (HD13.out.setE 0)
      have HK14 := Lib.hid (kept_three V11 gp ga ge p.C au.C (.int .i64 0))
      have f1 := HD13.out.e.frozen 0
      have y1 := HD13.out.e.cell 0
      simp at y1
      clear hor hs HH
      go_wp2_with (first
        | (refine wpList_load_row rfl 33 _ rfl gp rfl 33 p.C (0, 0) _ HD11.out.p Try.underlying33 rfl info_pk ?_)
        | (refine wpList_load_row rfl 44 _ rfl ga rfl 44 au.C (0, 0) _ HD11.out.a Try.underlying44 rfl info_au ?_)
        | (refine wpList_store_row rfl 33 _ _ rfl gp p.C rfl rfl 33 _ HD11.out.p info_pk rfl (one_PA p) ?_)
        | (refine wpList_store_row rfl 44 _ _ rfl ga au.C rfl rfl 44 _ HD12.out.a info_au rfl (one_Au au) ?_))
      exact dec_done w _ gp ga ge p au xs _ HD14.out (OK.out HYs.out.1) EA.out (HB11.out.2.far HD11.out HK14.out) (by rw [← EY.out, ← E2.out, ← E4.out, ← E5.out]; exact HYs.out.2) (HB11.out.1.trans (HK14.out.below (fun i hi => by rcases hi with rfl | rfl | rfl; exact HF6.out.bp; exact HF6.out.ba; exact HF6.out.be) HB11.out.1.size)) rfl rfl rfl
  refine wp_region_w [(0, true), (1, true), (2, true), (3, false), (4, false)] (by kernel_rfl) (fun _ d _ _ _ h => absurd h.1 (by intro e; cases e)) ?_
  simp only [List.map_cons, List.map_nil, nthOp_zero, nthOp_succ]
  replace HF := Lib.hid (HF.out.later (Below.refl _ _).drew)
  generalize V7.drew = V8 at *
  refine wpW_take (by rfl) (by intro W; go_simp; try with_reducible rfl) ?_
  refine wpW_take (by rfl) (by intro W; go_simp; try with_reducible rfl) ?_
  refine wpW_take (by rfl) (by intro W; go_simp; try with_reducible rfl) ?_
  go_simp
  refine wpW_do fun K hK => ?_
  go_wp2_with fail
  refine (rr_take w V8 g q _ HF.out.r 8 (by omega)).mono ?_
  rintro e W8 ⟨v4, rfl, hu, hr, hk⟩
  obtain ⟨e1, e2⟩ := rd_take (xs := ys) (p := 16) (k := 8) (by omega)
  rw [e2] at hr
  have hcl : ((ys.drop 16).take 8).length = 8 := by rw [List.length_take, List.length_drop]; omega
  rw [e1, hcl] at hu
  obtain ⟨A4, c4, rfl, hc4, hcm4, hru⟩ := own_shape hu
  obtain ⟨d0, d1, d2, d3, d4, d5, d6, d7, hd8⟩ := take8_of hcl
  replace HF : Hid (DeF w W8 g gp ga ge q ⟨ys, 24, 0⟩ _ _) := Lib.hid (HF.out.step hk hr)
  have HU := Lib.hid hru
  have H8 := Lib.hid hd8
  clear hu hr hk hru e1 e2 hcl hd8
  go_wp2_with fail
  refine hK.out _ _ ?_
  clear hK K
  refine wpW_do fun K hK => ?_
  obtain ⟨_, hs4⟩ := HU.out
  obtain ⟨ad4, rfl, _, hs5⟩ := hs4 (by decide)
  rw [H8.out] at hs5
  refine wpList_copy_own rfl (.tmp 45) (.tmp 47) 39 39 rfl 5 rfl rfl ga 1 8 8 ad4 8 c4 rfl rfl _ 44 HF.out.d.a (u8s [d0, d1, d2, d3, d4, d5, d6, d7]) rfl hs5 (by simp [u8s]) (by simp [u8s, Value.oneCell']) ?_
  replace HF := Lib.hid (HF.out.setA #[.int .u16 x7, .int .u8 d0, .int .u8 d1, .int .u8 d2, .int .u8 d3, .int .u8 d4, .int .u8 d5, .int .u8 d6, .int .u8 d7])
  show wpList _ _ _ _ _ (W8.setRow ga #[.int .u16 x7, .int .u8 d0, .int .u8 d1, .int .u8 d2, .int .u8 d3, .int .u8 d4, .int .u8 d5, .int .u8 d6, .int .u8 d7])
  generalize W8.setRow ga #[.int .u16 x7, .int .u8 d0, .int .u8 d1, .int .u8 d2, .int .u8 d3, .int .u8 d4, .int .u8 d5, .int .u8 d6, .int .u8 d7] = W9 at *
  go_wp2_with fail
  refine hK.out _ _ ?_
  clear hK K
  refine wpW_nil ?_
  go_simp
  exact ⟨rfl, _, _, _, _, _, _, _, _, _, _, _, _, _, _, _, _, _, _, _, _, _, _, _, _, _, _, _, _, _, _, _, _, _, _, _, _, _, _, _, _, rfl, by rw [H8.out]; exact HF.out⟩
theorem pdecode_any (A : Option Addr) (n c : Nat) (xs : List Int) (w : World) (hx : Reads w w.heap.size 1 A n (u8s xs)) (ho : Oct xs) (hc : n ≤ c) (hm : c ≤ 9223372036854775807) (hn : n ≤ 1073741824) :
    Calls Try.prog 13 #[.slice A n c] w fun e w' => DecP w w' xs e := by
  by_cases he : (pkLen xs).2 = 0
  · exact dec_main A n c xs w hx ho hc hm hn he
  · exact dec_len A n c xs w hx ho hc hm he
end Go.Proofs.Ytbkejlalbjomkaa
