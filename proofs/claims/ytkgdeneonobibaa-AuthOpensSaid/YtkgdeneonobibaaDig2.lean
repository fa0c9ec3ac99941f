/-
  One block of the digest, walked.
-/
import Derived.Test.YtkgdeneonobibaaDig1
import Derived.Test.YtkgdeneonobibaaRef0
import Derived.Test.YtkgdeneonobibaaBase2
import Derived.StillTailTactics
namespace Go.Proofs.Ytkgdeneonobibaa
set_option linter.unusedVariables false
open Go.RowKit

def q4 (q : Q4) : Array Value := #[.int .u32 q.a, .int .u32 q.b, .int .u32 q.c, .int .u32 q.d]

theorem blk_word {xs : List Int} {k : Nat} {x0 x1 x2 x3 : Int} (h0 : xs[4 * k]? = some x0) (h1 : xs[4 * k + 1]? = some x1) (h2 : xs[4 * k + 2]? = some x2) (h3 : xs[4 * k + 3]? = some x3) (hk : k < 16) :
    (u32s (words xs))[k]? = some (.int .u32 (bits .or .u32 (bits .or .u32 (bits .or .u32 x0 (x1 * 256)) (x2 * 65536)) (x3 * 16777216))) := by
  unfold u32s words
  rw [List.getElem?_map, List.getElem?_map, List.getElem?_range hk]
  simp only [Option.map_some, word, List.getD, h0, h1, h2, h3, Option.getD_some]
theorem i33 : (Try.prog.info? 169).map (·.size) = some 4 := by kernel_rfl
theorem q4_one (q : Q4) : (q4 q).all (·.oneCell') = true := by simp [q4, Value.oneCell']
theorem words_length (xs : List Int) : (u32s (words xs)).length = 16 := by simp [u32s, words]

set_option maxRecDepth 100000 in
set_option maxHeartbeats 1000000 in
theorem block_any (A : Option Addr) (n c : Nat) (xs : List Int) (q : Q4) (w : World) (hx : Reads w w.heap.size 1 A n (u8s xs)) (ho : Oct xs) (hn : 64 ≤ n) (hn2 : n ≤ 9223372036854775807) (hq : q.ok) :
    Calls Try.prog 118 #[.agg (q4 q), .slice A n c] w fun e w' => e = .returned (.agg (q4 (blk q xs))) ∧ Below w.heap.size w w' := by
  unfold q4
  go_enter Try.func118, Try.ntmps118
  go_wp2
  go_loopw [17] (fun i wr => ∃ k : Nat, i = .int .i64 k ∧ k ≤ 16 ∧ Blk wr w.heap.size 169 (q4 q) ∧ Blk wr (w.heap.size + 1) 169 (q4 ⟨0, 0, 0, 0⟩) ∧ Blk wr (w.heap.size + 1 + 1) 176 (Fill (.int .u32 0) (u32s (words xs)) k) ∧ Below w.heap.size w wr) (fun i _ => 16 - (intOf i).toNat)
  case atStart =>
    refine ⟨0, rfl, by omega, ?_, ?_, ?_, ?_⟩
    · exact ((Blk.new w _ _).alloc _).alloc _
    · have := (Blk.new (w.alloc (.cells (q4 q) 169)) 169 (q4 ⟨0, 0, 0, 0⟩)).alloc (.cells (Array.replicate 16 (.int .u32 0)) 176)
      rw [World.size_alloc] at this
      exact this
    · have := Blk.new ((w.alloc (.cells (q4 q) 169)).alloc (.cells (q4 ⟨0, 0, 0, 0⟩) 169)) 176 (Array.replicate 16 (.int .u32 0))
      rw [World.size_alloc, World.size_alloc] at this
      rw [Fill.zero, words_length]
      exact this
    · exact (((Below.refl _ _).alloc (Nat.le_refl _) _).alloc (by simp) _).alloc (by simp; omega) _
  case round =>
    obtain ⟨k, rfl, hk, hb0, hb1, hb2, hbel⟩ := hrel
    have hxr := hx.below hbel
    by_cases hlt : k < 16
    · obtain ⟨a, x0, rfl, hal, hx0, h0⟩ := hxr.u8at (k := 4 * k) (by omega)
      obtain ⟨a', x1, e1, _, hx1, h1⟩ := hxr.u8atc (k := 4 * k + 1) (by omega) (by omega)
      obtain rfl : a = a' := by injection e1
      obtain ⟨a', x2, e2, _, hx2, h2⟩ := hxr.u8atc (k := 4 * k + 2) (by omega) (by omega)
      obtain rfl : a = a' := by injection e2
      obtain ⟨a', x3, e3, _, hx3, h3⟩ := hxr.u8atc (k := 4 * k + 3) (by omega) (by omega)
      obtain rfl : a = a' := by injection e3
      obtain ⟨y00, y01⟩ := ho _ _ hx0.out
      obtain ⟨y10, y11⟩ := ho _ _ hx1.out
      obtain ⟨y20, y21⟩ := ho _ _ hx2.out
      obtain ⟨y30, y31⟩ := ho _ _ hx3.out
      have hw := Lib.hid (blk_word hx0.out hx1.out hx2.out hx3.out hlt)
      have hc : wr.cell? ⟨w.heap.size + 1 + 1, k, none⟩ = some (.int .u32 0) := by rw [hb2.cell, Fill.at_ _ _ (by rw [words_length]; exact hlt)]
      have hf := hb2.frozen k
      have v1 : IntKind.i64.wrap (4 * (k : Int)) = 4 * (k : Int) := IntWalk.i64_in _ (by omega)
      have v2 : IntKind.i64.wrap (4 * (k : Int) + 1) = 4 * (k : Int) + 1 := IntWalk.i64_in _ (by omega)
      have v3 : IntKind.i64.wrap (4 * (k : Int) + 2) = 4 * (k : Int) + 2 := IntWalk.i64_in _ (by omega)
      have v4 : IntKind.i64.wrap (4 * (k : Int) + 3) = 4 * (k : Int) + 3 := IntWalk.i64_in _ (by omega)
      have n1 : (4 * (k : Int)).toNat = 4 * k := by omega
      have n2 : (4 * (k : Int) + 1).toNat = 4 * k + 1 := by omega
      have n3 : (4 * (k : Int) + 2).toNat = 4 * k + 2 := by omega
      have n4 : (4 * (k : Int) + 3).toNat = 4 * k + 3 := by omega
      have b1 : 4 * (k : Int) < (n : Int) := by omega
      have b2 : 4 * (k : Int) + 1 < (n : Int) := by omega
      have b3 : 4 * (k : Int) + 2 < (n : Int) := by omega
      have b4 : 4 * (k : Int) + 3 < (n : Int) := by omega
      have b5 : (0 : Int) ≤ 4 * (k : Int) := by omega
      have b6 : (0 : Int) ≤ 4 * (k : Int) + 1 := by omega
      have b7 : (0 : Int) ≤ 4 * (k : Int) + 2 := by omega
      have b8 : (0 : Int) ≤ 4 * (k : Int) + 3 := by omega
      have u0 : IntKind.u32.wrap x0 = x0 := IntWalk.u32_in _ (by omega)
      have u1 : IntKind.u32.wrap x1 = x1 := IntWalk.u32_in _ (by omega)
      have u2 : IntKind.u32.wrap x2 = x2 := IntWalk.u32_in _ (by omega)
      have u3 : IntKind.u32.wrap x3 = x3 := IntWalk.u32_in _ (by omega)
      have u4 : IntKind.u32.wrap (x1 * 256) = x1 * 256 := IntWalk.u32_in _ (by omega)
      have u5 : IntKind.u32.wrap (x2 * 65536) = x2 * 65536 := IntWalk.u32_in _ (by omega)
      have u6 : IntKind.u32.wrap (x3 * 16777216) = x3 * 16777216 := IntWalk.u32_in _ (by omega)
      go_wp2
      go_still_tail 35, (by kernel_rfl)
      change wpList _ _ _ _ _ wr.drew
      go_wp2
      go_roundw
      case rel =>
        have e2 := hb2.set_ k (.int .u32 (bits .or .u32 (bits .or .u32 (bits .or .u32 x0 (x1 * 256)) (x2 * 65536)) (x3 * 16777216)))
        rw [Fill.set _ _ hw.out] at e2
        exact ⟨k + 1, by go_num, by omega, hb0.far (p := ⟨w.heap.size + 1 + 1, k, none⟩) (by show _ ≠ w.heap.size + 1 + 1; omega) _, hb1.far (p := ⟨w.heap.size + 1 + 1, k, none⟩) (by show _ ≠ w.heap.size + 1 + 1; omega) _, e2, (hbel.setCell (p := ⟨w.heap.size + 1 + 1, k, none⟩) (by show _ ≤ w.heap.size + 1 + 1; omega) _).drew⟩
      case measure => simp [intOf]; omega
    · rw [Fill.full _ _ (by rw [words_length]; omega)] at hb2
      obtain ⟨M, hM⟩ : ∃ M, M = words xs := ⟨_, rfl⟩
      have HB : Hid (blk q xs = ⟨wr32 (q.a + (iterI M q 64).a), wr32 (q.b + (iterI M q 64).b), wr32 (q.c + (iterI M q 64).c), wr32 (q.d + (iterI M q 64).d)⟩) := by rw [hM]; rfl
      have hMl : Hid (M.length = 16) := by rw [hM]; show _ = _; simp [words]
      rw [← hM] at hb2
      clear hM hx hxr ho
      obtain ⟨wo, rfl⟩ : ∃ wo : World, wo = wr := ⟨_, rfl⟩
      go_wp2_with fail
      refine (consts_any _).mono ?_
      rintro e w1 ⟨rfl, hbw1⟩
      have K1 := Lib.hid (below_then hbel hbw1)
      have c0 := Lib.hid (hb0.later hbw1)
      have c1 := Lib.hid (hb1.later hbw1)
      have c2 := Lib.hid (hb2.later hbw1)
      clear hb0 hb1 hb2 hbel hbw1
      go_wp2_with (refine wpList_store_row rfl 177 _ _ rfl w1.heap.size t64 rfl rfl 177 _ (heap_alloc_new w1 _) (by kernel_rfl) (by kernel_rfl) (by kernel_rfl) ?_; rw [World.setRow_alloc_new])
      have d0 := (c0.out.alloc (.cells t64 177))
      have d1 := (c1.out.alloc (.cells t64 177))
      have d2 := (c2.out.alloc (.cells t64 177))
      have d3 := Blk.new w1 177 t64
      have KD := (K1.out.alloc (Nat.le_trans (Nat.le_refl _) K1.out.size) (.cells t64 177))
      have s0 := d0.cell 0
      have s1 := d0.cell 1
      have s2 := d0.cell 2
      have s3 := d0.cell 3
      simp only [q4] at s0 s1 s2 s3
      generalize w1.heap.size = gt at *
      obtain ⟨wd, hwd⟩ : ∃ wd, wd = w1.alloc (.cells t64 177) := ⟨_, rfl⟩
      rw [← hwd] at d0 d1 d2 d3 KD s0 s1 s2 s3 ⊢
      clear hwd c0 c1 c2 K1
      have D0 := Lib.hid d0
      have D1 := Lib.hid d1
      have D2 := Lib.hid d2
      have D3 := Lib.hid d3
      have KD' := Lib.hid KD
      clear d0 d1 d2 d3 KD
      go_quiet (fail)
      go_wp2_with fail
      refine (rounds_any _).mono ?_
      rintro e w2 ⟨rfl, hb2'⟩
      have f0 := (D0.out.drewN _).later hb2'
      have f1 := (D1.out.drewN _).later hb2'
      have f2 := (D2.out.drewN _).later hb2'
      have f3 := (D3.out.drewN _).later hb2'
      have f0k := below_then (below_drewN KD'.out _) hb2'
      clear hb2' D0 D1 D2 D3 KD' s0 s1 s2 s3
      go_wp2
      go_loopw [8, 9, 10, 11, 66] (fun a b c d i wk => ∃ (k : Nat) (Q : Q4), i = .int .i64 k ∧ k ≤ 4 ∧ a = .int .u32 Q.a ∧ b = .int .u32 Q.b ∧ c = .int .u32 Q.c ∧ d = .int .u32 Q.d ∧ Hid (Q = iterI M q (16 * k)) ∧ Hid Q.ok ∧
          Blk wk w.heap.size 169 (q4 q) ∧ Blk wk (w.heap.size + 1) 169 (q4 ⟨0, 0, 0, 0⟩) ∧ Blk wk (w.heap.size + 1 + 1) 176 (u32s M).toArray ∧ Blk wk gt 177 t64 ∧ Below w.heap.size w wk) (fun _ _ _ _ i _ => 4 - (intOf i).toNat)
      case atStart => exact ⟨0, q, rfl, by omega, rfl, rfl, rfl, rfl, rfl, hq, f0, f1, f2, f3, f0k⟩
      case round =>
        clear f0 f1 f2 f3 f0k
        obtain ⟨k, Q, rfl, hk, rfl, rfl, rfl, rfl, hQ, hQo, f0, f1, f2, f3, f0k⟩ := hrel
        obtain ⟨wk, rfl⟩ : ∃ wk : World, wk = wr := ⟨_, rfl⟩
        by_cases hk0 : k = 0
        · subst hk0
          have i0 : ∀ W, (Instr.index 183 (.agg r28) (.int .i64 0)).run Try.prog W = .ok (.agg #[.func (.func 133) #[] #[], .int .i64 1, .int .i64 0, .int .i64 7, .int .i64 12, .int .i64 17, .int .i64 22]) W := fun _ => by kernel_rfl
          go_wp2_with (refine wpList_store_row rfl 182 _ _ rfl wk.heap.size #[.func (.func 133) #[] #[], .int .i64 1, .int .i64 0, .int .i64 7, .int .i64 12, .int .i64 17, .int .i64 22] rfl rfl 182 _ (heap_alloc_new wk _) (by kernel_rfl) (by kernel_rfl) (by kernel_rfl) ?_; rw [World.setRow_alloc_new])
          have f4 := Blk.new wk 182 #[.func (.func 133) #[] #[], .int .i64 1, .int .i64 0, .int .i64 7, .int .i64 12, .int .i64 17, .int .i64 22]
          have KF := f0k.alloc (Nat.le_trans (Nat.le_refl _) f0k.size) (.cells #[.func (.func 133) #[] #[], .int .i64 1, .int .i64 0, .int .i64 7, .int .i64 12, .int .i64 17, .int .i64 22] 182)
          have g0 := f0.alloc (.cells #[.func (.func 133) #[] #[], .int .i64 1, .int .i64 0, .int .i64 7, .int .i64 12, .int .i64 17, .int .i64 22] 182)
          have g1 := f1.alloc (.cells #[.func (.func 133) #[] #[], .int .i64 1, .int .i64 0, .int .i64 7, .int .i64 12, .int .i64 17, .int .i64 22] 182)
          have g2 := f2.alloc (.cells #[.func (.func 133) #[] #[], .int .i64 1, .int .i64 0, .int .i64 7, .int .i64 12, .int .i64 17, .int .i64 22] 182)
          have g3 := f3.alloc (.cells #[.func (.func 133) #[] #[], .int .i64 1, .int .i64 0, .int .i64 7, .int .i64 12, .int .i64 17, .int .i64 22] 182)
          generalize wk.heap.size = gr at *
          generalize wk.alloc (.cells #[.func (.func 133) #[] #[], .int .i64 1, .int .i64 0, .int .i64 7, .int .i64 12, .int .i64 17, .int .i64 22] 182) = wo2 at *
          clear f0 f1 f2 f3 f0k
          have G : Hid (Blk wo2 w.heap.size 169 (q4 q) ∧ Blk wo2 (w.heap.size + 1) 169 (q4 ⟨0, 0, 0, 0⟩) ∧ Blk wo2 (w.heap.size + 1 + 1) 176 (u32s M).toArray ∧ Blk wo2 gt 177 t64 ∧ Below w.heap.size w wo2) := ⟨g0, g1, g2, g3, KF⟩
          have F4 : Hid (Blk wo2 gr 182 #[.func (.func 133) #[] #[], .int .i64 1, .int .i64 0, .int .i64 7, .int .i64 12, .int .i64 17, .int .i64 22]) := f4
          clear f4 KF g0 g1 g2 g3
          go_wp2
          go_loopw [8, 9, 10, 11, 70] (fun a b c d i wj => ∃ (j : Nat) (Q : Q4), i = .int .i64 j ∧ j ≤ 16 ∧ a = .int .u32 Q.a ∧ b = .int .u32 Q.b ∧ c = .int .u32 Q.c ∧ d = .int .u32 Q.d ∧ Hid (Q = iterI M q (16 * 0 + j)) ∧ Hid Q.ok ∧ ∃ dn, wj = wo2.drewN dn) (fun _ _ _ _ i _ => 16 - (intOf i).toNat)
          case atStart => exact ⟨0, Q, rfl, by omega, rfl, rfl, rfl, rfl, hQ, hQo, 0, rfl⟩
          case round =>
            obtain ⟨j, Q, rfl, hj, rfl, rfl, rfl, rfl, hQ, hQo, dn, rfl⟩ := hrel
            by_cases hjlt : j < 16
            · obtain ⟨t, ht, hct⟩ := t64_at G.out.2.2.2.1 (i := 16 * 0 + j) (by omega)
              obtain ⟨m, hm, hcm⟩ := u32s_at G.out.2.2.1 (i := whI (16 * 0 + j)) (by rw [hMl.out]; exact whI_lt (by omega))
              have hcn := by16_at0 F4.out hjlt
              obtain ⟨N, hN⟩ : ∃ N, N = byI (16 * 0 + j) := ⟨_, rfl⟩
              have hNb := byI_table (16 * 0 + j) (by omega)
              rw [← hN] at hNb hcn
              obtain ⟨hN0, hN1⟩ := hNb
              have HN := Lib.hid hN
              clear hN
              have e1 : whI (16 * 0 + j) = (j) % 16 := by unfold whI; (repeat' split) <;> omega
              have e2 : 16 * 0 + j = j := by omega
              rw [e1] at hcm
              rw [e2] at hct
              have cf : wo2.cell? ⟨gr, 0, none⟩ = some (.func (.func 133) #[] #[]) := F4.out.cell 0
              have ct : wo2.cell? ⟨gr, 1, none⟩ = some (.int .i64 1) := F4.out.cell 1
              have cm : wo2.cell? ⟨gr, 2, none⟩ = some (.int .i64 0) := F4.out.cell 2
              clear e1 e2
              have W32 : ∀ x, IntKind.u32.wrap x = wr32 x := IntKind.wrap_u32
              have x0 : ((j : Int)).tmod 16 = ((j : Int)) % 16 := Int.tmod_eq_emod_of_nonneg (by omega)
              have x1 : IntKind.i64.wrap (((j : Int)) % 16) = ((j : Int)) % 16 := IntWalk.i64_in _ (by omega)
              have x2 : (((j : Int)) % 16).toNat = (j) % 16 := by omega
              have x3 : ((j : Int)).toNat = j := by omega
              have x4 : (0 : Int) ≤ ((j : Int)) % 16 := by omega
              have x5 : ((j : Int)) % 16 < (16 : Int) := by omega
              have x6 : (j : Int) < (64 : Int) := by omega
              have x7 : (0 : Int) ≤ (j : Int) := by omega
              go_wp2
              go_quiet ((go_at_call 133; exact quiet_add_same (mix0_any _ _ _ _)))
              clear x0 x1 x2 x3 x4 x5 x6 x7
              have hv := wr32_ok (wr32 (wr32 (Q.a + mixI 0 Q.b Q.c Q.d) + t) + m)
              obtain ⟨hv0, hv1⟩ := hv
              go_wp2_with (go_at_call 126; refine (rot_any _ N _ hN0 hN1 hv0 hv1).mono ?_; rintro e w' ⟨rfl, rfl⟩)
              go_roundw
              case rel => exact ⟨j + 1, stepI M (16 * 0 + j) Q, by go_num, by omega, rfl, by rw [step_b ht.out hm.out (f := mixI 0 Q.b Q.c Q.d) (mix_at0 (by omega)), ← HN.out], rfl, rfl, step_eq hQ.out, stepI_ok hQo.out, _, rfl⟩
              case measure => simp [intOf]; omega
            · go_wp2
              go_roundw
              case rel => exact ⟨0 + 1, Q, rfl, by omega, rfl, rfl, rfl, rfl, by rw [hQ.out]; show _ = iterI M q _; congr 1; omega, hQo.out, G.out.1.drewN _, G.out.2.1.drewN _, G.out.2.2.1.drewN _, G.out.2.2.2.1.drewN _, below_drewN G.out.2.2.2.2 _⟩
              case measure => simp [intOf]
        by_cases hk1 : k = 1
        · subst hk1
          have i0 : ∀ W, (Instr.index 183 (.agg r28) (.int .i64 1)).run Try.prog W = .ok (.agg #[.func (.func 134) #[] #[], .int .i64 5, .int .i64 1, .int .i64 5, .int .i64 9, .int .i64 14, .int .i64 20]) W := fun _ => by kernel_rfl
          go_wp2_with (refine wpList_store_row rfl 182 _ _ rfl wk.heap.size #[.func (.func 134) #[] #[], .int .i64 5, .int .i64 1, .int .i64 5, .int .i64 9, .int .i64 14, .int .i64 20] rfl rfl 182 _ (heap_alloc_new wk _) (by kernel_rfl) (by kernel_rfl) (by kernel_rfl) ?_; rw [World.setRow_alloc_new])
          have f4 := Blk.new wk 182 #[.func (.func 134) #[] #[], .int .i64 5, .int .i64 1, .int .i64 5, .int .i64 9, .int .i64 14, .int .i64 20]
          have KF := f0k.alloc (Nat.le_trans (Nat.le_refl _) f0k.size) (.cells #[.func (.func 134) #[] #[], .int .i64 5, .int .i64 1, .int .i64 5, .int .i64 9, .int .i64 14, .int .i64 20] 182)
          have g0 := f0.alloc (.cells #[.func (.func 134) #[] #[], .int .i64 5, .int .i64 1, .int .i64 5, .int .i64 9, .int .i64 14, .int .i64 20] 182)
          have g1 := f1.alloc (.cells #[.func (.func 134) #[] #[], .int .i64 5, .int .i64 1, .int .i64 5, .int .i64 9, .int .i64 14, .int .i64 20] 182)
          have g2 := f2.alloc (.cells #[.func (.func 134) #[] #[], .int .i64 5, .int .i64 1, .int .i64 5, .int .i64 9, .int .i64 14, .int .i64 20] 182)
          have g3 := f3.alloc (.cells #[.func (.func 134) #[] #[], .int .i64 5, .int .i64 1, .int .i64 5, .int .i64 9, .int .i64 14, .int .i64 20] 182)
          generalize wk.heap.size = gr at *
          generalize wk.alloc (.cells #[.func (.func 134) #[] #[], .int .i64 5, .int .i64 1, .int .i64 5, .int .i64 9, .int .i64 14, .int .i64 20] 182) = wo2 at *
          clear f0 f1 f2 f3 f0k
          have G : Hid (Blk wo2 w.heap.size 169 (q4 q) ∧ Blk wo2 (w.heap.size + 1) 169 (q4 ⟨0, 0, 0, 0⟩) ∧ Blk wo2 (w.heap.size + 1 + 1) 176 (u32s M).toArray ∧ Blk wo2 gt 177 t64 ∧ Below w.heap.size w wo2) := ⟨g0, g1, g2, g3, KF⟩
          have F4 : Hid (Blk wo2 gr 182 #[.func (.func 134) #[] #[], .int .i64 5, .int .i64 1, .int .i64 5, .int .i64 9, .int .i64 14, .int .i64 20]) := f4
          clear f4 KF g0 g1 g2 g3
          go_wp2
          go_loopw [8, 9, 10, 11, 70] (fun a b c d i wj => ∃ (j : Nat) (Q : Q4), i = .int .i64 j ∧ j ≤ 16 ∧ a = .int .u32 Q.a ∧ b = .int .u32 Q.b ∧ c = .int .u32 Q.c ∧ d = .int .u32 Q.d ∧ Hid (Q = iterI M q (16 * 1 + j)) ∧ Hid Q.ok ∧ ∃ dn, wj = wo2.drewN dn) (fun _ _ _ _ i _ => 16 - (intOf i).toNat)
          case atStart => exact ⟨0, Q, rfl, by omega, rfl, rfl, rfl, rfl, hQ, hQo, 0, rfl⟩
          case round =>
            obtain ⟨j, Q, rfl, hj, rfl, rfl, rfl, rfl, hQ, hQo, dn, rfl⟩ := hrel
            by_cases hjlt : j < 16
            · obtain ⟨t, ht, hct⟩ := t64_at G.out.2.2.2.1 (i := 16 * 1 + j) (by omega)
              obtain ⟨m, hm, hcm⟩ := u32s_at G.out.2.2.1 (i := whI (16 * 1 + j)) (by rw [hMl.out]; exact whI_lt (by omega))
              have hcn := by16_at1 F4.out hjlt
              obtain ⟨N, hN⟩ : ∃ N, N = byI (16 * 1 + j) := ⟨_, rfl⟩
              have hNb := byI_table (16 * 1 + j) (by omega)
              rw [← hN] at hNb hcn
              obtain ⟨hN0, hN1⟩ := hNb
              have HN := Lib.hid hN
              clear hN
              have e1 : whI (16 * 1 + j) = (5 * (16 + j) + 1) % 16 := by unfold whI; (repeat' split) <;> omega
              have e2 : 16 * 1 + j = 16 + j := by omega
              rw [e1] at hcm
              rw [e2] at hct
              have cf : wo2.cell? ⟨gr, 0, none⟩ = some (.func (.func 134) #[] #[]) := F4.out.cell 0
              have ct : wo2.cell? ⟨gr, 1, none⟩ = some (.int .i64 5) := F4.out.cell 1
              have cm : wo2.cell? ⟨gr, 2, none⟩ = some (.int .i64 1) := F4.out.cell 2
              clear e1 e2
              have W32 : ∀ x, IntKind.u32.wrap x = wr32 x := IntKind.wrap_u32
              have x0 : IntKind.i64.wrap (5 * (16 + (j : Int))) = 5 * (16 + (j : Int)) := IntWalk.i64_in _ (by omega)
              have x1 : IntKind.i64.wrap (5 * (16 + (j : Int)) + 1) = 5 * (16 + (j : Int)) + 1 := IntWalk.i64_in _ (by omega)
              have x2 : (5 * (16 + (j : Int)) + 1).tmod 16 = (5 * (16 + (j : Int)) + 1) % 16 := Int.tmod_eq_emod_of_nonneg (by omega)
              have x3 : IntKind.i64.wrap ((5 * (16 + (j : Int)) + 1) % 16) = (5 * (16 + (j : Int)) + 1) % 16 := IntWalk.i64_in _ (by omega)
              have x4 : ((5 * (16 + (j : Int)) + 1) % 16).toNat = (5 * (16 + j) + 1) % 16 := by omega
              have x5 : (16 + (j : Int)).toNat = 16 + j := by omega
              have x6 : (0 : Int) ≤ (5 * (16 + (j : Int)) + 1) % 16 := by omega
              have x7 : (5 * (16 + (j : Int)) + 1) % 16 < (16 : Int) := by omega
              have x8 : 16 + (j : Int) < (64 : Int) := by omega
              have x9 : (0 : Int) ≤ 16 + (j : Int) := by omega
              go_wp2
              go_quiet ((go_at_call 134; exact quiet_add_same (mix1_any _ _ _ _)))
              clear x0 x1 x2 x3 x4 x5 x6 x7 x8 x9
              have hv := wr32_ok (wr32 (wr32 (Q.a + mixI 16 Q.b Q.c Q.d) + t) + m)
              obtain ⟨hv0, hv1⟩ := hv
              go_wp2_with (go_at_call 126; refine (rot_any _ N _ hN0 hN1 hv0 hv1).mono ?_; rintro e w' ⟨rfl, rfl⟩)
              go_roundw
              case rel => exact ⟨j + 1, stepI M (16 * 1 + j) Q, by go_num, by omega, rfl, by rw [step_b ht.out hm.out (f := mixI 16 Q.b Q.c Q.d) (mix_at1 (by omega)), ← HN.out], rfl, rfl, step_eq hQ.out, stepI_ok hQo.out, _, rfl⟩
              case measure => simp [intOf]; omega
            · go_wp2
              go_roundw
              case rel => exact ⟨1 + 1, Q, rfl, by omega, rfl, rfl, rfl, rfl, by rw [hQ.out]; show _ = iterI M q _; congr 1; omega, hQo.out, G.out.1.drewN _, G.out.2.1.drewN _, G.out.2.2.1.drewN _, G.out.2.2.2.1.drewN _, below_drewN G.out.2.2.2.2 _⟩
              case measure => simp [intOf]
        by_cases hk2 : k = 2
        · subst hk2
          have i0 : ∀ W, (Instr.index 183 (.agg r28) (.int .i64 2)).run Try.prog W = .ok (.agg #[.func (.func 135) #[] #[], .int .i64 3, .int .i64 5, .int .i64 4, .int .i64 11, .int .i64 16, .int .i64 23]) W := fun _ => by kernel_rfl
          go_wp2_with (refine wpList_store_row rfl 182 _ _ rfl wk.heap.size #[.func (.func 135) #[] #[], .int .i64 3, .int .i64 5, .int .i64 4, .int .i64 11, .int .i64 16, .int .i64 23] rfl rfl 182 _ (heap_alloc_new wk _) (by kernel_rfl) (by kernel_rfl) (by kernel_rfl) ?_; rw [World.setRow_alloc_new])
          have f4 := Blk.new wk 182 #[.func (.func 135) #[] #[], .int .i64 3, .int .i64 5, .int .i64 4, .int .i64 11, .int .i64 16, .int .i64 23]
          have KF := f0k.alloc (Nat.le_trans (Nat.le_refl _) f0k.size) (.cells #[.func (.func 135) #[] #[], .int .i64 3, .int .i64 5, .int .i64 4, .int .i64 11, .int .i64 16, .int .i64 23] 182)
          have g0 := f0.alloc (.cells #[.func (.func 135) #[] #[], .int .i64 3, .int .i64 5, .int .i64 4, .int .i64 11, .int .i64 16, .int .i64 23] 182)
          have g1 := f1.alloc (.cells #[.func (.func 135) #[] #[], .int .i64 3, .int .i64 5, .int .i64 4, .int .i64 11, .int .i64 16, .int .i64 23] 182)
          have g2 := f2.alloc (.cells #[.func (.func 135) #[] #[], .int .i64 3, .int .i64 5, .int .i64 4, .int .i64 11, .int .i64 16, .int .i64 23] 182)
          have g3 := f3.alloc (.cells #[.func (.func 135) #[] #[], .int .i64 3, .int .i64 5, .int .i64 4, .int .i64 11, .int .i64 16, .int .i64 23] 182)
          generalize wk.heap.size = gr at *
          generalize wk.alloc (.cells #[.func (.func 135) #[] #[], .int .i64 3, .int .i64 5, .int .i64 4, .int .i64 11, .int .i64 16, .int .i64 23] 182) = wo2 at *
          clear f0 f1 f2 f3 f0k
          have G : Hid (Blk wo2 w.heap.size 169 (q4 q) ∧ Blk wo2 (w.heap.size + 1) 169 (q4 ⟨0, 0, 0, 0⟩) ∧ Blk wo2 (w.heap.size + 1 + 1) 176 (u32s M).toArray ∧ Blk wo2 gt 177 t64 ∧ Below w.heap.size w wo2) := ⟨g0, g1, g2, g3, KF⟩
          have F4 : Hid (Blk wo2 gr 182 #[.func (.func 135) #[] #[], .int .i64 3, .int .i64 5, .int .i64 4, .int .i64 11, .int .i64 16, .int .i64 23]) := f4
          clear f4 KF g0 g1 g2 g3
          go_wp2
          go_loopw [8, 9, 10, 11, 70] (fun a b c d i wj => ∃ (j : Nat) (Q : Q4), i = .int .i64 j ∧ j ≤ 16 ∧ a = .int .u32 Q.a ∧ b = .int .u32 Q.b ∧ c = .int .u32 Q.c ∧ d = .int .u32 Q.d ∧ Hid (Q = iterI M q (16 * 2 + j)) ∧ Hid Q.ok ∧ ∃ dn, wj = wo2.drewN dn) (fun _ _ _ _ i _ => 16 - (intOf i).toNat)
          case atStart => exact ⟨0, Q, rfl, by omega, rfl, rfl, rfl, rfl, hQ, hQo, 0, rfl⟩
          case round =>
            obtain ⟨j, Q, rfl, hj, rfl, rfl, rfl, rfl, hQ, hQo, dn, rfl⟩ := hrel
            by_cases hjlt : j < 16
            · obtain ⟨t, ht, hct⟩ := t64_at G.out.2.2.2.1 (i := 16 * 2 + j) (by omega)
              obtain ⟨m, hm, hcm⟩ := u32s_at G.out.2.2.1 (i := whI (16 * 2 + j)) (by rw [hMl.out]; exact whI_lt (by omega))
              have hcn := by16_at2 F4.out hjlt
              obtain ⟨N, hN⟩ : ∃ N, N = byI (16 * 2 + j) := ⟨_, rfl⟩
              have hNb := byI_table (16 * 2 + j) (by omega)
              rw [← hN] at hNb hcn
              obtain ⟨hN0, hN1⟩ := hNb
              have HN := Lib.hid hN
              clear hN
              have e1 : whI (16 * 2 + j) = (3 * (32 + j) + 5) % 16 := by unfold whI; (repeat' split) <;> omega
              have e2 : 16 * 2 + j = 32 + j := by omega
              rw [e1] at hcm
              rw [e2] at hct
              have cf : wo2.cell? ⟨gr, 0, none⟩ = some (.func (.func 135) #[] #[]) := F4.out.cell 0
              have ct : wo2.cell? ⟨gr, 1, none⟩ = some (.int .i64 3) := F4.out.cell 1
              have cm : wo2.cell? ⟨gr, 2, none⟩ = some (.int .i64 5) := F4.out.cell 2
              clear e1 e2
              have W32 : ∀ x, IntKind.u32.wrap x = wr32 x := IntKind.wrap_u32
              have x0 : IntKind.i64.wrap (3 * (32 + (j : Int))) = 3 * (32 + (j : Int)) := IntWalk.i64_in _ (by omega)
              have x1 : IntKind.i64.wrap (3 * (32 + (j : Int)) + 5) = 3 * (32 + (j : Int)) + 5 := IntWalk.i64_in _ (by omega)
              have x2 : (3 * (32 + (j : Int)) + 5).tmod 16 = (3 * (32 + (j : Int)) + 5) % 16 := Int.tmod_eq_emod_of_nonneg (by omega)
              have x3 : IntKind.i64.wrap ((3 * (32 + (j : Int)) + 5) % 16) = (3 * (32 + (j : Int)) + 5) % 16 := IntWalk.i64_in _ (by omega)
              have x4 : ((3 * (32 + (j : Int)) + 5) % 16).toNat = (3 * (32 + j) + 5) % 16 := by omega
              have x5 : (32 + (j : Int)).toNat = 32 + j := by omega
              have x6 : (0 : Int) ≤ (3 * (32 + (j : Int)) + 5) % 16 := by omega
              have x7 : (3 * (32 + (j : Int)) + 5) % 16 < (16 : Int) := by omega
              have x8 : 32 + (j : Int) < (64 : Int) := by omega
              have x9 : (0 : Int) ≤ 32 + (j : Int) := by omega
              go_wp2
              go_quiet ((go_at_call 135; exact quiet_add_same (mix2_any _ _ _ _)))
              clear x0 x1 x2 x3 x4 x5 x6 x7 x8 x9
              have hv := wr32_ok (wr32 (wr32 (Q.a + mixI 32 Q.b Q.c Q.d) + t) + m)
              obtain ⟨hv0, hv1⟩ := hv
              go_wp2_with (go_at_call 126; refine (rot_any _ N _ hN0 hN1 hv0 hv1).mono ?_; rintro e w' ⟨rfl, rfl⟩)
              go_roundw
              case rel => exact ⟨j + 1, stepI M (16 * 2 + j) Q, by go_num, by omega, rfl, by rw [step_b ht.out hm.out (f := mixI 32 Q.b Q.c Q.d) (mix_at2 (by omega)), ← HN.out], rfl, rfl, step_eq hQ.out, stepI_ok hQo.out, _, rfl⟩
              case measure => simp [intOf]; omega
            · go_wp2
              go_roundw
              case rel => exact ⟨2 + 1, Q, rfl, by omega, rfl, rfl, rfl, rfl, by rw [hQ.out]; show _ = iterI M q _; congr 1; omega, hQo.out, G.out.1.drewN _, G.out.2.1.drewN _, G.out.2.2.1.drewN _, G.out.2.2.2.1.drewN _, below_drewN G.out.2.2.2.2 _⟩
              case measure => simp [intOf]
        by_cases hk3 : k = 3
        · subst hk3
          have i0 : ∀ W, (Instr.index 183 (.agg r28) (.int .i64 3)).run Try.prog W = .ok (.agg #[.func (.func 136) #[] #[], .int .i64 7, .int .i64 0, .int .i64 6, .int .i64 10, .int .i64 15, .int .i64 21]) W := fun _ => by kernel_rfl
          go_wp2_with (refine wpList_store_row rfl 182 _ _ rfl wk.heap.size #[.func (.func 136) #[] #[], .int .i64 7, .int .i64 0, .int .i64 6, .int .i64 10, .int .i64 15, .int .i64 21] rfl rfl 182 _ (heap_alloc_new wk _) (by kernel_rfl) (by kernel_rfl) (by kernel_rfl) ?_; rw [World.setRow_alloc_new])
          have f4 := Blk.new wk 182 #[.func (.func 136) #[] #[], .int .i64 7, .int .i64 0, .int .i64 6, .int .i64 10, .int .i64 15, .int .i64 21]
          have KF := f0k.alloc (Nat.le_trans (Nat.le_refl _) f0k.size) (.cells #[.func (.func 136) #[] #[], .int .i64 7, .int .i64 0, .int .i64 6, .int .i64 10, .int .i64 15, .int .i64 21] 182)
          have g0 := f0.alloc (.cells #[.func (.func 136) #[] #[], .int .i64 7, .int .i64 0, .int .i64 6, .int .i64 10, .int .i64 15, .int .i64 21] 182)
          have g1 := f1.alloc (.cells #[.func (.func 136) #[] #[], .int .i64 7, .int .i64 0, .int .i64 6, .int .i64 10, .int .i64 15, .int .i64 21] 182)
          have g2 := f2.alloc (.cells #[.func (.func 136) #[] #[], .int .i64 7, .int .i64 0, .int .i64 6, .int .i64 10, .int .i64 15, .int .i64 21] 182)
          have g3 := f3.alloc (.cells #[.func (.func 136) #[] #[], .int .i64 7, .int .i64 0, .int .i64 6, .int .i64 10, .int .i64 15, .int .i64 21] 182)
          generalize wk.heap.size = gr at *
          generalize wk.alloc (.cells #[.func (.func 136) #[] #[], .int .i64 7, .int .i64 0, .int .i64 6, .int .i64 10, .int .i64 15, .int .i64 21] 182) = wo2 at *
          clear f0 f1 f2 f3 f0k
          have G : Hid (Blk wo2 w.heap.size 169 (q4 q) ∧ Blk wo2 (w.heap.size + 1) 169 (q4 ⟨0, 0, 0, 0⟩) ∧ Blk wo2 (w.heap.size + 1 + 1) 176 (u32s M).toArray ∧ Blk wo2 gt 177 t64 ∧ Below w.heap.size w wo2) := ⟨g0, g1, g2, g3, KF⟩
          have F4 : Hid (Blk wo2 gr 182 #[.func (.func 136) #[] #[], .int .i64 7, .int .i64 0, .int .i64 6, .int .i64 10, .int .i64 15, .int .i64 21]) := f4
          clear f4 KF g0 g1 g2 g3
          go_wp2
          go_loopw [8, 9, 10, 11, 70] (fun a b c d i wj => ∃ (j : Nat) (Q : Q4), i = .int .i64 j ∧ j ≤ 16 ∧ a = .int .u32 Q.a ∧ b = .int .u32 Q.b ∧ c = .int .u32 Q.c ∧ d = .int .u32 Q.d ∧ Hid (Q = iterI M q (16 * 3 + j)) ∧ Hid Q.ok ∧ ∃ dn, wj = wo2.drewN dn) (fun _ _ _ _ i _ => 16 - (intOf i).toNat)
          case atStart => exact ⟨0, Q, rfl, by omega, rfl, rfl, rfl, rfl, hQ, hQo, 0, rfl⟩
          case round =>
            obtain ⟨j, Q, rfl, hj, rfl, rfl, rfl, rfl, hQ, hQo, dn, rfl⟩ := hrel
            by_cases hjlt : j < 16
            · obtain ⟨t, ht, hct⟩ := t64_at G.out.2.2.2.1 (i := 16 * 3 + j) (by omega)
              obtain ⟨m, hm, hcm⟩ := u32s_at G.out.2.2.1 (i := whI (16 * 3 + j)) (by rw [hMl.out]; exact whI_lt (by omega))
              have hcn := by16_at3 F4.out hjlt
              obtain ⟨N, hN⟩ : ∃ N, N = byI (16 * 3 + j) := ⟨_, rfl⟩
              have hNb := byI_table (16 * 3 + j) (by omega)
              rw [← hN] at hNb hcn
              obtain ⟨hN0, hN1⟩ := hNb
              have HN := Lib.hid hN
              clear hN
              have e1 : whI (16 * 3 + j) = (7 * (48 + j)) % 16 := by unfold whI; (repeat' split) <;> omega
              have e2 : 16 * 3 + j = 48 + j := by omega
              rw [e1] at hcm
              rw [e2] at hct
              have cf : wo2.cell? ⟨gr, 0, none⟩ = some (.func (.func 136) #[] #[]) := F4.out.cell 0
              have ct : wo2.cell? ⟨gr, 1, none⟩ = some (.int .i64 7) := F4.out.cell 1
              have cm : wo2.cell? ⟨gr, 2, none⟩ = some (.int .i64 0) := F4.out.cell 2
              clear e1 e2
              have W32 : ∀ x, IntKind.u32.wrap x = wr32 x := IntKind.wrap_u32
              have x0 : IntKind.i64.wrap (7 * (48 + (j : Int))) = 7 * (48 + (j : Int)) := IntWalk.i64_in _ (by omega)
              have x1 : (7 * (48 + (j : Int))).tmod 16 = (7 * (48 + (j : Int))) % 16 := Int.tmod_eq_emod_of_nonneg (by omega)
              have x2 : IntKind.i64.wrap ((7 * (48 + (j : Int))) % 16) = (7 * (48 + (j : Int))) % 16 := IntWalk.i64_in _ (by omega)
              have x3 : ((7 * (48 + (j : Int))) % 16).toNat = (7 * (48 + j)) % 16 := by omega
              have x4 : (48 + (j : Int)).toNat = 48 + j := by omega
              have x5 : (0 : Int) ≤ (7 * (48 + (j : Int))) % 16 := by omega
              have x6 : (7 * (48 + (j : Int))) % 16 < (16 : Int) := by omega
              have x7 : 48 + (j : Int) < (64 : Int) := by omega
              have x8 : (0 : Int) ≤ 48 + (j : Int) := by omega
              go_wp2
              go_quiet ((go_at_call 136; exact quiet_add_same (mix3_any _ _ _ _)))
              clear x0 x1 x2 x3 x4 x5 x6 x7 x8
              have hv := wr32_ok (wr32 (wr32 (Q.a + mixI 48 Q.b Q.c Q.d) + t) + m)
              obtain ⟨hv0, hv1⟩ := hv
              go_wp2_with (go_at_call 126; refine (rot_any _ N _ hN0 hN1 hv0 hv1).mono ?_; rintro e w' ⟨rfl, rfl⟩)
              go_roundw
              case rel => exact ⟨j + 1, stepI M (16 * 3 + j) Q, by go_num, by omega, rfl, by rw [step_b ht.out hm.out (f := mixI 48 Q.b Q.c Q.d) (mix_at3 (by omega)), ← HN.out], rfl, rfl, step_eq hQ.out, stepI_ok hQo.out, _, rfl⟩
              case measure => simp [intOf]; omega
            · go_wp2
              go_roundw
              case rel => exact ⟨3 + 1, Q, rfl, by omega, rfl, rfl, rfl, rfl, by rw [hQ.out]; show _ = iterI M q _; congr 1; omega, hQo.out, G.out.1.drewN _, G.out.2.1.drewN _, G.out.2.2.1.drewN _, G.out.2.2.2.1.drewN _, below_drewN G.out.2.2.2.2 _⟩
              case measure => simp [intOf]
        have hk4 : k = 4 := by omega
        subst hk4
        have s0 := f0.cell 0
        have s1 := f0.cell 1
        have s2 := f0.cell 2
        have s3 := f0.cell 3
        simp only [q4] at s0 s1 s2 s3
        have W32 : ∀ x, IntKind.u32.wrap x = wr32 x := IntKind.wrap_u32
        go_wp2_with (refine wpList_store_row rfl 169 _ _ rfl (w.heap.size + 1) (q4 ⟨wr32 (q.a + Q.a), wr32 (q.b + Q.b), wr32 (q.c + Q.c), wr32 (q.d + Q.d)⟩) rfl rfl 169 _ f1 i33 rfl (q4_one _) ?_)
        refine bodyPost_ret (results_cell_row rfl _ _ (w.heap.size + 1) 169 (q4 ⟨wr32 (q.a + Q.a), wr32 (q.b + Q.b), wr32 (q.c + Q.c), wr32 (q.d + Q.d)⟩) (0, 0) _ rfl (f1.setRow _) Try.underlying169 rfl i33) rfl ⟨?_, below_setRow f0k (by omega) _⟩
        rw [HB.out, ← show Q = iterI M q 64 from hQ.out]
        rfl
end Go.Proofs.Ytkgdeneonobibaa
