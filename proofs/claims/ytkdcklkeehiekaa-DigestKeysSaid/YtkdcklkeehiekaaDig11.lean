/-
  The law DigestKeys, walked.
-/
import Derived.Test.YtkdcklkeehiekaaDig10
namespace Go.Proofs.Ytkdcklkeehiekaa
set_option linter.unusedVariables false
open Go.RowKit

theorem OwnB.caps {w0 w : World} {A : Option Addr} {n c : Nat} {L : List Int} (h : OwnB w0 w (.slice A n c) L) (hn : L.length = n) : n ≤ c ∧ c ≤ 9223372036854775807 := by
  subst hn
  rcases h.1.2 with ⟨h1, _⟩ | ⟨g, cap, cur, h1, _, _, h2, h3, _⟩
  · injection h1 with _ h1 h2; omega
  · injection h1 with _ h1 h4; unfold maxLen at h3; omega
theorem exec_load_row {P : Program} {o : Oper} {a : Act} {w : World} {ty : TypeId} {x : Operand} (ho : o.op = .load ty x)
    {g : Nat} (hx : a.eval x = .pointer (some ⟨g, 0, none⟩)) {t : TypeId} {cs : Array Value} {d : TypeDesc} (hg : Blk w g t cs)
    (hu : P.underlying ty = some d) (hd : (match d with | .struct _ | .array _ _ => true | _ => false) = true) (hi : (P.info? ty).map (·.size) = some cs.size) :
    (execOp a.eval o).run P w = .ok (.value (.agg cs)) w := by
  unfold execOp
  simp only [ho, hx, Instr.loadAt, Instr.sureAddr, Sem.run_bind, Sem.run_pure, Result.andThen_ok, run_loadVar_row w g t ty cs (0, 0) d hg hu hd hi]
/-- The key filled up, in a list of its own. -/
def longKey (ks : List Int) : List Int := ks ++ List.replicate (16 - ks.length) 0
theorem longKey_length (ks : List Int) : (longKey ks).length = max ks.length 16 := by simp [longKey]; omega
theorem longKey_take (ks : List Int) : (longKey ks).take 16 = key16 ks := by
  unfold longKey key16
  rw [List.take_append, List.take_replicate]
  congr 2
  omega
theorem key16_long (ks ms : List Int) : key16 (longKey ks ++ ms) = key16 ks := by
  have h := longKey_length ks
  rw [← longKey_take ks]
  unfold key16
  rw [List.take_append_of_le_length (by omega), show 16 - (longKey ks ++ ms).length = 0 by simp; omega]
  simp
theorem longKey_oct {ks : List Int} (h : Oct ks) : Oct (longKey ks) := h.append fun i x hx => by
  have := (List.mem_replicate.1 (List.mem_of_getElem? hx)).2
  omega
theorem CopyAt.own {w w' : World} {xs : List Int} {e : Ending} (h : CopyAt w w' xs e) : ∃ v, e = .returned v ∧ OwnB w w' v xs := by
  obtain ⟨v, he, ho, hb⟩ := h
  exact ⟨v, he, ho, hb⟩
/-- What holds at the head of each round that fills the key up. -/
def LongAt (w w0 : World) (kn : Nat) (ks : List Int) (v : Value) (wq : World) : Prop :=
  ∃ z : Nat, z ≤ 16 - kn ∧ Below w.heap.size w wq ∧ OwnB w0 wq v (ks ++ List.replicate z 0)

set_option maxRecDepth 100000 in
set_option maxHeartbeats 1000000 in
theorem digestKeys_walk (A K : Option Addr) (n c kn kc : Nat) (m : Int) (xs ks : List Int) (w : World) (hx : Reads w w.heap.size 1 A n (u8s xs)) (hk : Reads w w.heap.size 1 K kn (u8s ks)) (hox : Oct xs) (hok : Oct ks) (hm0 : 0 ≤ m) (hm1 : m ≤ 255) :
    Calls Try.prog 5 #[.slice A n c, .slice K kn kc, .int .u8 m] w fun e w' => e = .returned (.bool true) ∧ Below w.heap.size w w' := by
  by_cases hbig : 16384 < n
  · go_enter Try.func5, Try.ntmps5
    go_wp2_with (go_at_call 6; refine (lives_any _).mono ?_; rintro e w' ⟨rfl, hb⟩)
    go_ret
    exact ⟨rfl, hb⟩
  by_cases hbig' : 16384 < kn
  · go_enter Try.func5, Try.ntmps5
    go_wp2_with (go_at_call 6; refine (lives_any _).mono ?_; rintro e w' ⟨rfl, hb⟩)
    go_ret
    exact ⟨rfl, hb⟩
  have hlx := Lib.hid hx.u8len
  have hlk := Lib.hid hk.u8len
  go_enter Try.func5, Try.ntmps5
  go_wp2_with fail
  refine (copyBytes_any K kn kc ks w hk (by omega)).mono ?_
  intro e w1 hw1
  obtain ⟨v1, he1, h1⟩ := hw1.own
  subst he1
  clear hw1
  obtain ⟨A1, c1, hv⟩ := h1.shape
  rw [hlk.out] at hv
  subst hv
  go_wp2_with fail
  refine (copyBytes_any A n c xs w1 (hx.later h1.2) (by omega)).mono ?_
  intro e w2 hw1
  obtain ⟨v2, he1, h2⟩ := hw1.own
  subst he1
  clear hw1
  obtain ⟨A2, c2, hv⟩ := h2.shape
  rw [hlx.out] at hv
  subst hv
  go_wp2_with fail
  have cq := keyed_any A1 A2 kn c1 n c2 ks xs w2 ((h1.later h2.2).reads hlk.out) (h2.reads hlx.out) hok hox (by omega) (by omega)
  refine cq.mono ?_
  clear cq
  rintro e w3 ⟨rfl, hb3⟩
  have b3 := below_then (below_then h1.2 h2.2) hb3
  clear h1 h2 hb3
  obtain ⟨D, hD⟩ : ∃ D, D = md (xs ++ key16 ks) := ⟨_, rfl⟩
  rw [← hD]
  have HD := Lib.hid hD
  have F5 := md_fits (xs ++ key16 ks)
  rw [← hD] at F5
  clear hD
  go_wp2_with (refine wpList_store_row rfl 27 _ _ rfl w3.heap.size (u8s D).toArray rfl rfl 27 _ (heap_alloc_new w3 _) (by rw [F5.out.1]; exact i27) (by rw [F5.out.1]; rfl) F5.out.2 ?_; rw [World.setRow_alloc_new])
  have b4 : Below w.heap.size w (w3.alloc (.cells (u8s D).toArray 27)) := b3.alloc b3.size _
  have m4 := Blk.new w3 27 (u8s D).toArray
  generalize w3.alloc (.cells (u8s D).toArray 27) = w4 at *
  generalize w3.heap.size = gw at *
  clear b3
  refine (copyBytes_any K kn kc ks w4 (hk.later b4) (by omega)).mono ?_
  intro e w5 hw1
  obtain ⟨v5, he1, h5⟩ := hw1.own
  subst he1
  clear hw1
  go_wp2_with fail
  have HX := Lib.hid hx
  have M4 := Lib.hid m4
  clear hx hk m4
  obtain ⟨w0, hw0⟩ : ∃ w0, w0 = w4 := ⟨_, rfl⟩
  rw [← hw0] at h5 M4 b4
  have B4 := Lib.hid b4
  clear hw0 b4 w4
  go_loopw [8] (fun v wq => LongAt w w0 kn ks v wq) (fun v _ => 16 - lenOf v)
  case atStart => exact ⟨0, by omega, below_then B4.out h5.2, by simpa using h5⟩
  case round =>
    obtain ⟨z, hz, hb, ho⟩ := hrel
    have hL : (ks ++ List.replicate z 0).length = kn + z := by rw [List.length_append, List.length_replicate, hlk.out]
    have HL := Lib.hid hL
    obtain ⟨A5, c5, hv⟩ := ho.shape
    rw [hL] at hv
    clear hL
    subst hv
    have HO := Lib.hid ho
    have HB := Lib.hid hb
    clear ho hb
    obtain ⟨wo, rfl⟩ : ∃ wo : World, wo = wr := ⟨_, rfl⟩
    by_cases hlt : kn + z < 16
    · go_wp2_with (at_builtin; refine wpList_app el_u8 rfl (.tmp 29) (.tmp 30) rfl (HO.out.own HL.out (.cells #[.int .u8 0] 5)) rfl (Reads.one_new wo (.int .u8 0) 5) rfl (one_u8 _) (by simp only [maxLen]; omega) (by omega) (HO.out.room _) ?_; intro v3 w3 ho3 hb3 _ _; have H3 := Lib.hid (HO.out.push HL.out ho3 hb3); have HB3 := Lib.hid ((HB.out.alloc HB.out.size (.cells #[.int .u8 0] 5)).trans (hb3.mono B4.out.size)); clear ho3 hb3)
      go_roundw
      case rel => exact ⟨z + 1, by omega, HB3.out, by rw [List.replicate_succ', ← List.append_assoc]; exact H3.out⟩
      case measure =>
        have := H3.out.shape
        obtain ⟨A7, c7, hv⟩ := this
        rw [hv]
        simp [lenOf, hlk.out]
        omega
    · have hzz : z = 16 - kn := by omega
      have hlong : ks ++ List.replicate z 0 = longKey ks := by rw [longKey, hlk.out, hzz]
      rw [hlong] at HO HL
      have HLong := Lib.hid hlong
      obtain ⟨N, hN⟩ : ∃ N, N = kn + z := ⟨_, rfl⟩
      rw [← hN] at HL HO
      rw [← hN]
      have hN16 : 16 ≤ N := by omega
      have hNle : N ≤ 16400 := by omega
      have hcap := HO.out.caps HL.out
      obtain ⟨hc5, hm5⟩ := hcap
      clear hN hlt hz hzz hlong
      go_wp2_with fail
      refine (copyBytes_any A n c xs wo (HX.out.later HB.out) (by omega)).mono ?_
      intro e w6 hw1
      obtain ⟨v6, he1, h6⟩ := hw1.own
      subst he1
      clear hw1
      have H6 := Lib.hid h6
      have HO6 := Lib.hid (HO.out.later h6.2)
      have HB6 := Lib.hid (below_then HB.out h6.2)
      clear h6
      have HR6 := Lib.hid ((HO6.out.reads HL.out).u8pre (k := 16) (by omega))
      rw [longKey_take] at HR6
      go_wp2_with (first
        | (at_builtin; refine wpList_app el_u8 rfl (.tmp 34) (.tmp 36) rfl H6.out.1 rfl HR6.out rfl u8s_one (by simp only [maxLen, hlx.out]; omega) (by simp only [hlx.out]; omega) H6.out.2.size ?_; intro v7 w7 ho7 hb7 _ _; have H7 := Lib.hid (H6.out.app rfl (by rw [key16_length]) ho7 hb7); have HO7 := Lib.hid (HO.out.later H7.out.2); have HB7 := Lib.hid (below_then HB.out H7.out.2); clear ho7 hb7)
        | (at_builtin; refine wpList_app el_u8 rfl (.tmp 38) (.tmp 41) rfl (HO7.out.own HL.out (.cells (u8s [m, m]).toArray 5)) rfl (Reads.lit w7 (u8s [m, m]) 5 (n := 2) rfl) rfl u8s_one (by simp only [maxLen]; omega) (by omega) (HO7.out.room _) ?_; intro v8 w8 ho8 hb8 hg8 _; have HG8 := Lib.hid hg8; clear hg8; have H8 := Lib.hid (OwnB.app (L := longKey ks) (ys := [m, m]) (w := w7.alloc (.cells (u8s [m, m]).toArray 5)) ⟨by rw [HL.out]; exact HO7.out.own HL.out _, HO7.out.2.alloc HO7.out.2.size _⟩ HL.out rfl ho8 hb8); have H8b := Lib.hid ((HB7.out.alloc HB7.out.size (.cells (u8s [m, m]).toArray 5)).trans (hb8.mono B4.out.size)); clear ho8 hb8))
      have hl7 : (xs ++ key16 ks).length = n + 16 := by rw [List.length_append, key16_length, hlx.out]
      have HL7 := Lib.hid hl7
      clear hl7
      obtain ⟨A7, c7, hv⟩ := H7.out.shape
      rw [HL7.out] at hv
      subst hv
      obtain ⟨A8, c8, hv⟩ := H8.out.shape
      rw [List.length_append, HL.out] at hv
      subst hv
      have HR7 : Hid (Reads w8 w8.heap.size 1 A7 (n + 16) (u8s (xs ++ key16 ks))) := by
        obtain ⟨g5, cap5, hv5, _, hlt5⟩ := HO.out.1.form (by rw [HL.out]; omega)
        have hg := HG8.out
        rw [HL.out] at hv5
        rw [hv5] at hg
        have hr := (H7.out.reads HL7.out).alloc (Nat.le_refl _) (.cells (u8s [m, m]).toArray 5)
        refine (hr.only (by rw [World.size_alloc]; omega) ?_ hg).more (by have := hg.size; rw [World.size_alloc] at this; omega)
        intro ad had
        rcases H7.out.1.2 with ⟨h1, _⟩ | ⟨g, cap, cur, h1, h2, _⟩
        · injection h1 with h1; rw [h1] at had; cases had
        · injection h1 with h1
          rw [h1] at had
          injection had with had
          rw [← had]
          show g ≠ g5
          omega
      have HM8 : Hid (Blk w8 gw 27 (u8s D).toArray) := M4.out.later H8.out.2
      have HR8 := Lib.hid (H8.out.reads (by rw [List.length_append, HL.out]))
      have hcap8 := H8.out.caps (n := N + 2) (by rw [List.length_append, HL.out]; rfl)
      have hcap7 := H7.out.caps HL7.out
      obtain ⟨hc8, hm8⟩ := hcap8
      obtain ⟨hc7, hm7⟩ := hcap7
      have HX8 := Lib.hid (HX.out.later H8b.out)
      have HB8 := Lib.hid H8b.out.drew
      clear H7 H8 H8b HO6 HB6 HR6 HO7 HB7 HG8 HO HB M4 h5 HLong H6 HX
      have HS : Hid ((fun W => Blk W gw 27 (u8s D).toArray) w8.drew) := HM8.out
      have HX9 : Hid (Reads w8.drew w8.drew.heap.size 1 A n (u8s xs)) := HX8.out
      have HR9 : Hid (Reads w8.drew w8.drew.heap.size 1 A8 (N + 2) (u8s (longKey ks ++ [m, m]))) := HR8.out
      have HW9 : Hid (Reads w8.drew w8.drew.heap.size 1 A7 (n + 16) (u8s (xs ++ key16 ks))) := HR7.out
      refine wp_region_s (fun W => Blk W gw 27 (u8s D).toArray) [(0, true), (1, true), (4, true), (2, false), (3, false), (5, true), (6, true), (7, true), (9, true), (8, false), (10, true), (11, true), (12, true), (13, false), (14, true), (15, true)] (by kernel_rfl) (fun _ d _ _ _ h => by cases d <;> exact h) ?_
      simp only [List.map_cons, List.map_nil, nthOp_zero, nthOp_succ]
      clear HX8 HR8 HR7 HM8
      generalize w8.drew = w9 at *
      refine wpS_take HS (by rfl) (by intro W hW; go_simp; try with_reducible rfl) ?_
      refine wpS_take HS (by rfl) (by intro W hW; go_simp; try with_reducible rfl) ?_
      refine wpS_take HS (by rfl) (fun W hW => exec_load_row rfl rfl hW Try.underlying27 rfl (by rw [F5.out.1]; exact i27)) ?_
      refine wpS_do fun K1 hK1 => ?_
      go_wp2_with (go_at_call 16; refine (copyBytes_any A n c xs w9 HX9.out (by omega)).mono ?_; intro e w10 hw1; obtain ⟨v10, he1, h10⟩ := hw1.own; subst he1; have H10 := Lib.hid h10; clear h10 hw1)
      obtain ⟨A10, c10, hv⟩ := H10.out.shape
      rw [hlx.out] at hv
      subst hv
      have HS10 : Hid ((fun W => Blk W gw 27 (u8s D).toArray) w10) := HS.out.later H10.out.2
      have HW10 := Lib.hid (HW9.out.later H10.out.2)
      have HB10 := Lib.hid (below_then HB8.out H10.out.2)
      have HR10 := Lib.hid (HR9.out.later H10.out.2)
      have HX10 := Lib.hid (H10.out.reads hlx.out)
      clear HS HW9 HB8 HR9 HX9 H10
      refine hK1.out _ _ HS10.out ?_
      clear hK1 K1
      refine wpS_do fun K1 hK1 => ?_
      have cq := keyed_any A8 A10 (N + 2) c8 n c10 (longKey ks ++ [m, m]) xs w10 HR10.out HX10.out ((longKey_oct hok).append (Oct.of_mem (zs := [m, m]) fun x hx => by
        have : x = m := by simpa using hx
        omega)) hox (by omega) (by omega)
      rw [key16_long, ← HD.out] at cq
      have CQ := Lib.hid cq
      clear cq
      go_wp2_with (go_at_call 13; refine CQ.out.mono ?_; rintro e w11 ⟨rfl, h11⟩; have H11 := Lib.hid h11; clear h11)
      have HS11 : Hid ((fun W => Blk W gw 27 (u8s D).toArray) w11) := HS10.out.later H11.out
      have HW11 := Lib.hid (HW10.out.later H11.out)
      have HB11 := Lib.hid (below_then HB10.out H11.out)
      clear CQ HS10 HW10 HB10 HR10 HX10 H11
      refine hK1.out _ _ HS11.out ?_
      clear hK1 K1
      have hEq : ∀ W, (binOp .eql 27 (.agg (u8s D).toArray) (.agg (u8s D).toArray)).run Try.prog W = .ok (.bool true) W := fun W => by
        have hl : D.length = 16 := by rw [HD.out, md_len]
        rw [arr16_eq D D hl hl W]
        simp
      refine wpS_take HS11 (by rfl) (by intro W hW; go_simp; try with_reducible rfl) ?_
      refine wpS_take HS11 (by rfl) (by intro W hW; go_simp; try with_reducible rfl) ?_
      refine wpS_take HS11 (by rfl) (by intro W hW; go_simp; try with_reducible rfl) ?_
      refine wpS_take HS11 (by rfl) (fun W hW => exec_load_row rfl rfl hW Try.underlying27 rfl (by rw [F5.out.1]; exact i27)) ?_
      refine wpS_do fun K1 hK1 => ?_
      have cq := of_any A7 (n + 16) c7 (xs ++ key16 ks) w11 HW11.out (hox.append (key16_oct hok)) (by omega) (by omega) (by omega)
      rw [← HD.out] at cq
      have CQ := Lib.hid cq
      clear cq
      go_wp2_with (go_at_call 12; refine CQ.out.mono ?_; rintro e w12 ⟨rfl, h11⟩; have H12 := Lib.hid h11; clear h11)
      have HS12 : Hid ((fun W => Blk W gw 27 (u8s D).toArray) w12) := HS11.out.later H12.out
      have HB12 := Lib.hid (below_then HB11.out H12.out)
      clear CQ HS11 HW11 HB11 H12
      refine hK1.out _ _ HS12.out ?_
      clear hK1 K1
      refine wpS_take HS12 (by rfl) (by intro W hW; go_simp; try with_reducible rfl) ?_
      refine wpS_take HS12 (by rfl) (by intro W hW; go_simp; try with_reducible rfl) ?_
      refine wpS_take HS12 (by rfl) (by intro W hW; go_simp; try with_reducible rfl) ?_
      refine wpS_do fun K1 hK1 => ?_
      go_wp2_with (go_at_call 6; refine (lives_any w12).mono ?_; rintro e w13 ⟨rfl, h11⟩; have H13 := Lib.hid h11; clear h11)
      have HS13 : Hid ((fun W => Blk W gw 27 (u8s D).toArray) w13) := HS12.out.later H13.out
      refine hK1.out _ _ HS13.out ?_
      clear hK1 K1
      refine wpS_take HS13 (by rfl) (by intro W hW; go_simp; try with_reducible rfl) ?_
      refine wpS_take HS13 (by rfl) (by intro W hW; go_simp; try with_reducible rfl) ?_
      refine wpS_nil ?_
      go_wp2
      go_ret
      exact ⟨rfl, below_then HB12.out H13.out⟩
end Go.Proofs.Ytkdcklkeehiekaa
