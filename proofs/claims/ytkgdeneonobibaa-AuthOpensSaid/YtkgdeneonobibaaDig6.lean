/-
  The reference's block, walked.
-/
import Derived.Test.YtkgdeneonobibaaDig5
import Derived.Deep.RegionHeld3
namespace Go.Proofs.Ytkgdeneonobibaa
set_option linter.unusedVariables false
open Go.RowKit

def q4l (q : Q4) : List Value := [.int .u32 q.a, .int .u32 q.b, .int .u32 q.c, .int .u32 q.d]
theorem q_at {w : World} {B : Nat} {S : Option Addr} {q : Q4} (h : Reads w B 1 S 4 (q4l q)) :
    ∃ ad, S = some ad ∧ ad.block < B ∧ w.cell? ad = some (.int .u32 q.a) ∧ w.cell? ⟨ad.block, ad.off + 1, none⟩ = some (.int .u32 q.b) ∧ w.cell? ⟨ad.block, ad.off + 2, none⟩ = some (.int .u32 q.c) ∧ w.cell? ⟨ad.block, ad.off + 3, none⟩ = some (.int .u32 q.d) := by
  obtain ⟨ad, e, hb, hc⟩ := h.2 (by omega)
  refine ⟨ad, e, hb, ?_, ?_, ?_, ?_⟩
  · have := hc 0 _ rfl
    rwa [add_zero] at this
  · exact hc 1 _ rfl
  · exact hc 2 _ rfl
  · exact hc 3 _ rfl

theorem u32s_get {M : List Int} {i : Nat} {m : Int} (h : (u32s M)[i]? = some (.int .u32 m)) : M[i]? = some m := by
  simp only [u32s, List.getElem?_map, Option.map_eq_some_iff] at h
  obtain ⟨y, hy, e⟩ := h
  injection e with _ e
  rw [hy, e]
/-- What the reference's block leaves. -/
def BlockAt (w w' : World) (q : Q4) (xs : List Int) (e : Ending) : Prop :=
  ∃ g, e = .returned (.slice (some ⟨g, 0, none⟩) 4 4) ∧ Blk w' g 34 (q4l (blk q xs)).toArray ∧ w.heap.size ≤ g ∧ Below w.heap.size w w'

set_option maxRecDepth 100000 in
set_option maxHeartbeats 2000000 in
theorem refBlock_any (S A : Option Addr) (cs n c : Nat) (xs : List Int) (q : Q4) (w : World) (hs : Reads w w.heap.size 1 S 4 (q4l q)) (hx : Reads w w.heap.size 1 A n (u8s xs)) (ho : Oct xs) (hn : 64 ≤ n) (hn2 : n ≤ 9223372036854775807) (hq : q.ok) :
    Calls Try.prog 122 #[.slice S 4 cs, .slice A n c] w fun e w' => BlockAt w w' q xs e := by
  obtain ⟨ad, rfl, hab, a0, a1, a2, a3⟩ := q_at (hs.alloc (Nat.le_refl _) (.cells t64 34))
  go_enter Try.func122, Try.ntmps122
  go_wp2_with (go_at_call 128; refine (refConsts_any _).mono ?_; rintro e w' ⟨rfl, rfl⟩)
  clear a0 a1 a2 a3
  have HB : Hid (blk q xs = ⟨wr32 (q.a + (iterI (words xs) q 64).a), wr32 (q.b + (iterI (words xs) q 64).b), wr32 (q.c + (iterI (words xs) q 64).c), wr32 (q.d + (iterI (words xs) q 64).d)⟩) := rfl
  have k0 : Hid (Blk (w.alloc (.cells t64 34)) w.heap.size 34 t64 ∧ Below w.heap.size w (w.alloc (.cells t64 34))) := ⟨Blk.new _ _ _, (Below.refl _ _).alloc (Nat.le_refl _) _⟩
  go_loopw [6, 7, 8, 9, 10] (fun a b c d i wr => ∃ (k : Nat) (Q : Q4), i = .int .i64 k ∧ k ≤ 64 ∧ a = .int .u32 Q.a ∧ b = .int .u32 Q.b ∧ c = .int .u32 Q.c ∧ d = .int .u32 Q.d ∧ Hid (Q = iterI (words xs) q k) ∧ Hid Q.ok ∧ Blk wr w.heap.size 34 t64 ∧ Below w.heap.size w wr) (fun _ _ _ _ i _ => 64 - (intOf i).toNat)
  case atStart => exact ⟨0, q, rfl, by omega, rfl, rfl, rfl, rfl, rfl, hq, k0.out.1, k0.out.2⟩
  case round =>
    clear k0
    obtain ⟨k, Q, rfl, hk, rfl, rfl, rfl, rfl, hQ, hQo, ht, hb⟩ := hrel
    by_cases hlt : k < 64
    · obtain ⟨t, htt, hct⟩ := t64_at ht hlt
      obtain ⟨K, hK⟩ : ∃ K, K = whI k := ⟨_, rfl⟩
      have hK16 : K < 16 := by rw [hK]; exact whI_lt hlt
      have hwh := refWhich_any k
      rw [← hK] at hwh
      have HWH := Lib.hid hwh
      have HK := Lib.hid hK
      clear hwh hK
      have hxr := hx.below hb
      obtain ⟨a, x0, rfl, hal, hx0, h0⟩ := hxr.u8at (k := 4 * K) (by omega)
      obtain ⟨a', x1, e1, _, hx1, h1⟩ := hxr.u8atc (k := 4 * K + 1) (by omega) (by omega)
      obtain rfl : a = a' := by injection e1
      obtain ⟨a', x2, e2, _, hx2, h2⟩ := hxr.u8atc (k := 4 * K + 2) (by omega) (by omega)
      obtain rfl : a = a' := by injection e2
      obtain ⟨a', x3, e3, _, hx3, h3⟩ := hxr.u8atc (k := 4 * K + 3) (by omega) (by omega)
      obtain rfl : a = a' := by injection e3
      obtain ⟨y00, y01⟩ := ho _ _ hx0.out
      obtain ⟨y10, y11⟩ := ho _ _ hx1.out
      obtain ⟨y20, y21⟩ := ho _ _ hx2.out
      obtain ⟨y30, y31⟩ := ho _ _ hx3.out
      have hw := Lib.hid (blk_word hx0.out hx1.out hx2.out hx3.out hK16)
      have v2 : IntKind.i64.wrap (4 * (K : Int) + 1) = 4 * (K : Int) + 1 := IntWalk.i64_in _ (by omega)
      have v3 : IntKind.i64.wrap (4 * (K : Int) + 2) = 4 * (K : Int) + 2 := IntWalk.i64_in _ (by omega)
      have v4 : IntKind.i64.wrap (4 * (K : Int) + 3) = 4 * (K : Int) + 3 := IntWalk.i64_in _ (by omega)
      have n1 : (4 * (K : Int)).toNat = 4 * K := by omega
      have n2 : (4 * (K : Int) + 1).toNat = 4 * K + 1 := by omega
      have n3 : (4 * (K : Int) + 2).toNat = 4 * K + 2 := by omega
      have n4 : (4 * (K : Int) + 3).toNat = 4 * K + 3 := by omega
      have b1 : 4 * (K : Int) < (n : Int) := by omega
      have b2 : 4 * (K : Int) + 1 < (n : Int) := by omega
      have b3 : 4 * (K : Int) + 2 < (n : Int) := by omega
      have b4 : 4 * (K : Int) + 3 < (n : Int) := by omega
      have b5 : (0 : Int) ≤ 4 * (K : Int) := by omega
      have b6 : (0 : Int) ≤ 4 * (K : Int) + 1 := by omega
      have b7 : (0 : Int) ≤ 4 * (K : Int) + 2 := by omega
      have b8 : (0 : Int) ≤ 4 * (K : Int) + 3 := by omega
      have u0 : IntKind.u32.wrap x0 = x0 := IntWalk.u32_in _ (by omega)
      have u1 : IntKind.u32.wrap x1 = x1 := IntWalk.u32_in _ (by omega)
      have u2 : IntKind.u32.wrap x2 = x2 := IntWalk.u32_in _ (by omega)
      have u3 : IntKind.u32.wrap x3 = x3 := IntWalk.u32_in _ (by omega)
      have u4 : IntKind.u32.wrap (x1 * 256) = x1 * 256 := IntWalk.u32_in _ (by omega)
      have u5 : IntKind.u32.wrap (x2 * 65536) = x2 * 65536 := IntWalk.u32_in _ (by omega)
      have u6 : IntKind.u32.wrap (x3 * 16777216) = x3 * 16777216 := IntWalk.u32_in _ (by omega)
      go_wp2_with (go_at_call 129; refine (HWH.out _ hlt).mono ?_; rintro e w' ⟨rfl, rfl⟩)
      go_quiet (fail)
      clear v2 v3 v4 n1 n2 n3 n4 b1 b2 b3 b4 b5 b6 b7 b8 u0 u1 u2 u3 u4 u5 u6 h0 h1 h2 h3
      generalize hmq : bits .or .u32 (bits .or .u32 (bits .or .u32 x0 (x1 * 256)) (x2 * 65536)) (x3 * 16777216) = m at *
      clear hmq
      go_wp2
      obtain ⟨N, hN⟩ : ∃ N, N = byI k := ⟨_, rfl⟩
      have hNb := byI_table k hlt
      have hby := fun W => refBy_any k W hlt
      rw [← hN] at hNb
      simp only [← hN] at hby
      have HN := Lib.hid hN
      have HBY := Lib.hid hby
      clear hN hby
      obtain ⟨hN0, hN1⟩ := hNb
      have W32 : ∀ x, IntKind.u32.wrap x = wr32 x := IntKind.wrap_u32
      have k1 : (k : Int) < 64 := by omega
      have k2 : (0 : Int) ≤ (k : Int) := by omega
      have hgt := ht.lt
      obtain ⟨wz, hwz⟩ : ∃ wz, wz = w'.drewN nq := ⟨_, rfl⟩
      have hcz : wz.cell? ⟨w.heap.size, k, none⟩ = some (.int .u32 t) := by rw [hwz]; exact hct
      have HZ : Hid (Blk wz w.heap.size 34 t64 ∧ Below w.heap.size w wz) := by rw [hwz]; exact ⟨ht.drewN nq, below_drewN hb nq⟩
      have hgz : w.heap.size < wz.heap.size := HZ.out.1.lt
      rw [← hwz]
      clear hwz hct ht hb
      have hv := wr32_ok (wr32 (wr32 (Q.a + mixI k Q.b Q.c Q.d) + t) + m)
      obtain ⟨hv0, hv1⟩ := hv
      go_region_held3 (fun W => W.cell? ⟨w.heap.size, k, none⟩ = some (.int .u32 t)) (go_keep)
        (first | (go_at_call 131; refine (refMixed_any k _ _ _ _ hlt).mono ?_; rintro e w6 ⟨rfl, rfl⟩) | (go_at_call 132; refine (HBY.out _).mono ?_; rintro e w7 ⟨rfl, hb7⟩; have hc7 := (hb7.cell (p := ⟨w.heap.size, k, none⟩) hgz).trans hcz) | (go_at_call 130; refine (refTurned_any _ N _ hN0 hN1 hv0 hv1).mono ?_; rintro e w8 ⟨rfl, d8, rfl⟩))
      have hbz := below_drew_left hb7
      have HE := Lib.hid (And.intro (HZ.out.1.later hbz) (HZ.out.2.trans (hbz.mono (by omega))))
      have hm := u32s_get hw.out
      rw [HK.out] at hm
      have HM := Lib.hid hm
      clear hb7 hbz hc7 hcz hm HBY HWH hw
      go_wp2
      go_roundw
      case rel => exact ⟨k + 1, stepI (words xs) k Q, by go_num, by omega, rfl, by rw [step_b htt.out HM.out rfl, ← HN.out], rfl, rfl, step_eq hQ.out, stepI_ok hQo.out, HE.out.1.drewN _, below_drewN HE.out.2 _⟩
      case measure => simp [intOf]; omega
    · obtain rfl : k = 64 := by omega
      obtain ⟨ad', e', hab', a0, a1, a2, a3⟩ := q_at (hs.below hb)
      obtain rfl : ad = ad' := by injection e'
      have W32 : ∀ x, IntKind.u32.wrap x = wr32 x := IntKind.wrap_u32
      rw [← show Q = iterI (words xs) q 64 from hQ.out] at HB
      clear hQ hs hx
      go_wp2
      go_still_tail 20, (by kernel_rfl)
      change wpList _ _ _ _ _ wr.drew
      go_wp2
      go_ret
      have hnew := Blk.new wr 34 (q4l (blk q xs)).toArray
      rw [HB.out] at hnew
      refine ⟨wr.heap.size, rfl, ?_, hb.size, ?_⟩
      · rw [HB.out]
        exact hnew
      · exact (hb.alloc hb.size _).drew
end Go.Proofs.Ytkgdeneonobibaa
