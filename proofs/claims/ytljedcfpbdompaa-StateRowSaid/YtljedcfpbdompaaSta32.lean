/-
  StateRow: the walk. Printed by gen_sta32.py.
-/
import Derived.Test.YtljedcfpbdompaaStaM4
import Derived.Test.YtljedcfpbdompaaSta27
namespace Go.Proofs.Ytljedcfpbdompaa
set_option linter.unusedVariables false
open Go.RowKit Go.ChangeShapes Go.WideShapes

theorem take_snoc {α : Type} {L : List α} {i : Nat} {s : α} (h : L[i]? = some s) : L.take (i + 1) = L.take i ++ [s] := by
  obtain ⟨hi, rfl⟩ := List.getElem?_eq_some_iff.1 h
  exact List.take_succ_eq_append_getElem hi
theorem drop_cons {α : Type} {L : List α} {i : Nat} {s : α} (h : L[i]? = some s) : L.drop i = s :: L.drop (i + 1) := by
  obtain ⟨hi, rfl⟩ := List.getElem?_eq_some_iff.1 h
  exact List.drop_eq_getElem_cons hi
theorem row_le (L : List SE) (i : Nat) : ((L.take i).flatMap stB).length ≤ (L.flatMap stB).length := by
  have h := congrArg List.length (congrArg (List.flatMap stB) (List.take_append_drop i L))
  rw [List.flatMap_append, List.length_append] at h
  omega
/-- The first loop: how long the states are together. -/
def R1 (L : List SE) (w : World) (nv iv : Value) (wr : World) : Prop :=
  ∃ i N : Nat, nv = .int .i64 N ∧ iv = .int .i64 i ∧ i ≤ L.length ∧ Hid (((L.take i).flatMap stB).length = N) ∧ N ≤ 131072 ∧ Hid (∀ s ∈ L.take i, s.h.len = 20 + s.n) ∧ ∃ d, wr = w.drewN d
/-- The second: their bytes. -/
def R2 (L : List SE) (w : World) (bv iv : Value) (wr : World) : Prop :=
  ∃ (i : Nat) (A : Option Addr) (n c : Nat), bv = .slice A n c ∧ iv = .int .i64 i ∧ i ≤ L.length ∧ Hid (wr.ownsRow w.heap.size 5 1 (.slice A n c) n (u8s ((L.take i).flatMap stB))) ∧ Hid (Below w.heap.size w wr)
/-- The third: what is left of them. -/
def R3 (L : List SE) (w : World) (bv iv : Value) (wr : World) : Prop :=
  ∃ (i : Nat) (A : Option Addr) (n c : Nat), bv = .slice A n c ∧ iv = .int .i64 i ∧ i ≤ L.length ∧ Hid (Reads wr wr.heap.size 1 A n (u8s ((L.drop i).flatMap stB))) ∧ n ≤ c ∧ c ≤ 9223372036854775807 ∧ n ≤ 65536 ∧ Hid (Below w.heap.size w wr)
theorem stB_len {w : World} {s : SE} (h : SArg w s) : (stB s).length = 20 + s.n := by
  unfold stB
  rw [List.length_append, hdB_len, h.body.u8len]
set_option maxRecDepth 100000 in
set_option maxHeartbeats 16000000 in
theorem stateRow_walk (A : Option Addr) (n c : Nat) (L : List SE) (w : World) (hL : Stl w A n L) (hc : n ≤ c) (hm : c ≤ 9223372036854775807) (hs : ∀ s ∈ L, s.n ≤ reachBytes) : Calls Try.prog 5 #[.slice A n c] w fun e w' => e = .returned (.bool true) ∧ Below w.heap.size w w' := by
  have HL := Lib.hid hL
  have HS := Lib.hid hs
  have hn : L.length = n := hL.len
  clear hL hs
  go_enter Try.func5, Try.ntmps5
  go_wp2_with fail
  go_loopw [3, 4] (R1 L w) (fun _ i _ => n - (intOf i).toNat)
  case atStart => exact ⟨0, 0, rfl, rfl, by omega, Lib.hid rfl, by omega, Lib.hid (by simp), 0, rfl⟩
  case round =>
    obtain ⟨i, N, rfl, rfl, hi, hN, hN2, hP, d, rfl⟩ := hrel
    by_cases hgo : i < n ∧ N ≤ 65536
    · obtain ⟨hin, hN3⟩ := hgo
      have h1 : decide ((i : Int) < n) = true := decide_eq_true (by omega)
      have h2 : decide ((N : Int) ≤ 65536) = true := decide_eq_true (by omega)
      obtain ⟨ad, s, rfl, hab, hsi, hsa, hat⟩ := HL.out.at_ hin
      have hsm : s ∈ L := List.mem_of_getElem? hsi
      have hsr := HS.out s hsm
      have HSi := Lib.hid (And.intro hsi hsa)
      have hsn : s.n ≤ 140737488351232 := by unfold reachBytes at hsr; omega
      obtain ⟨y0, y1, y2, y3, y4, y5, y6, y7, y8⟩ := hat
      have HY : Hid ((fun W : World => W.cell? ⟨(ad.add (i * 9)).block, (ad.add (i * 9)).off + 7, none⟩ = some (.int .u16 s.h.len) ∧ W.cell? ⟨(ad.add (i * 9)).block, (ad.add (i * 9)).off + 8, none⟩ = some (.slice s.A s.n s.c)) (w.drewN d).drew) := Lib.hid ⟨y7, y8⟩
      have y8d : (w.drewN d).cell? ⟨(ad.add (i * 9)).block, (ad.add (i * 9)).off + 8, none⟩ = some (.slice s.A s.n s.c) := y8
      have w1 : IntKind.i64.wrap ((N : Int) + 20) = N + 20 := by rw [IntKind.wrap_i64]; omega
      have w2 : IntKind.i64.wrap ((N : Int) + 20 + s.n) = N + 20 + s.n := by rw [IntKind.wrap_i64]; omega
      have w3 : IntKind.i64.wrap (20 + (s.n : Int)) = 20 + s.n := by rw [IntKind.wrap_i64]; omega
      have w4 : IntKind.i64.wrap s.h.len = s.h.len := by have := hsa.head.len; rw [IntKind.wrap_i64]; omega
      clear hsi hsa hsm hsr y0 y1 y2 y3 y4 y5 y6 y7 y8 hab
      go_wp2_with fail
      refine wp_region_s (fun W : World => W.cell? ⟨(ad.add (i * 9)).block, (ad.add (i * 9)).off + 7, none⟩ = some (.int .u16 s.h.len) ∧ W.cell? ⟨(ad.add (i * 9)).block, (ad.add (i * 9)).off + 8, none⟩ = some (.slice s.A s.n s.c)) [(0, true), (1, true), (2, true), (3, true), (4, true), (7, true), (8, true), (9, true), (10, true), (5, true), (6, true), (11, true), (12, true), (13, true), (14, true)] (by kernel_rfl) (fun _ d _ _ _ h => by cases d <;> exact h) ?_
      simp only [List.map_cons, List.map_nil, nthOp_zero, nthOp_succ]
      clear y8d
      have hdd : (w.drewN d).drew = w.drewN (d + 1) := rfl
      rw [hdd] at *
      clear hdd
      refine wpS_take HY (by rfl) (by intro W hW; obtain ⟨y7, y8⟩ := hW; go_simp; try with_reducible rfl) ?_
      refine wpS_take HY (by rfl) (by intro W hW; obtain ⟨y7, y8⟩ := hW; go_simp; try with_reducible rfl) ?_
      refine wpS_take HY (by rfl) (by intro W hW; obtain ⟨y7, y8⟩ := hW; go_simp; try with_reducible rfl) ?_
      refine wpS_take HY (by rfl) (by intro W hW; obtain ⟨y7, y8⟩ := hW; go_simp; try with_reducible rfl) ?_
      refine wpS_take HY (by rfl) (by intro W hW; obtain ⟨y7, y8⟩ := hW; go_simp; try with_reducible rfl) ?_
      refine wpS_take HY (by rfl) (by intro W hW; obtain ⟨y7, y8⟩ := hW; go_simp; try with_reducible rfl) ?_
      refine wpS_take HY (by rfl) (by intro W hW; obtain ⟨y7, y8⟩ := hW; go_simp; try with_reducible rfl) ?_
      refine wpS_take HY (by rfl) (by intro W hW; obtain ⟨y7, y8⟩ := hW; go_simp; try with_reducible rfl) ?_
      refine wpS_take HY (by rfl) (by intro W hW; obtain ⟨y7, y8⟩ := hW; go_simp; try with_reducible rfl) ?_
      refine wpS_take HY (by rfl) (by intro W hW; obtain ⟨y7, y8⟩ := hW; go_simp; try with_reducible rfl) ?_
      refine wpS_take HY (by rfl) (by intro W hW; obtain ⟨y7, y8⟩ := hW; go_simp; try with_reducible rfl) ?_
      refine wpS_take HY (by rfl) (by intro W hW; obtain ⟨y7, y8⟩ := hW; go_simp; try with_reducible rfl) ?_
      refine wpS_take HY (by rfl) (by intro W hW; obtain ⟨y7, y8⟩ := hW; go_simp; try with_reducible rfl) ?_
      refine wpS_take HY (by rfl) (by intro W hW; obtain ⟨y7, y8⟩ := hW; go_simp; try with_reducible rfl) ?_
      refine wpS_take HY (by rfl) (by intro W hW; obtain ⟨y7, y8⟩ := hW; go_simp; try with_reducible rfl) ?_
      refine wpS_nil ?_
      go_simp
      by_cases hl : s.h.len = 20 + s.n
      · have hl2 : (s.h.len != 20 + (s.n : Int)) = false := by simpa using hl
        have HQ := Lib.hid hl
        clear hl HY
        go_wp2_with fail
        go_roundw
        case rel =>
          have h9 := take_snoc HSi.out.1
          refine ⟨i + 1, N + 20 + s.n, by push_cast; rfl, by push_cast; rfl, by omega, ?_, ?_, ?_, d + 1, rfl⟩
          · refine Lib.hid ?_
            rw [h9, List.flatMap_append, List.length_append, hN.out]
            simp [stB_len HSi.out.2]
            omega
          · have := HQ.out
            have := HSi.out.2.head.len
            omega
          · refine Lib.hid ?_
            rw [h9]
            intro q hq
            rcases List.mem_append.1 hq with h | h
            · exact hP.out q h
            · simp at h
              subst h
              exact HQ.out
        case measure =>
          simp only [intOf]
          omega
      · have hl2 : (s.h.len != 20 + (s.n : Int)) = true := by simpa using hl
        clear hl HY
        go_wp2_with fail
        refine (lives_any _).mono ?_
        rintro e wl ⟨rfl, hbl⟩
        go_wp2_with fail
        go_ret
        exact ⟨rfl, below_then (below_of_drewN _ w (d + 1)) hbl⟩
    · by_cases hin : i < n
      · have hN3 : ¬ N ≤ 65536 := fun h => hgo ⟨hin, h⟩
        have h1 : decide ((i : Int) < n) = true := decide_eq_true (by omega)
        have h2 : decide ((N : Int) ≤ 65536) = false := decide_eq_false (by omega)
        have h3 : decide ((65536 : Int) < N) = true := decide_eq_true (by omega)
        clear hgo hN3
        go_wp2_with fail
        refine (lives_any _).mono ?_
        rintro e wl ⟨rfl, hbl⟩
        go_wp2_with fail
        go_ret
        exact ⟨rfl, below_then (below_of_drewN _ w d) hbl⟩
      · have h1 : decide ((i : Int) < n) = false := decide_eq_false (by omega)
        by_cases hN3 : N ≤ 65536
        · have h3 : decide ((65536 : Int) < N) = false := decide_eq_false (by omega)
          have hin2 : i = L.length := by omega
          have HAll : Hid (∀ s ∈ L, s.h.len = 20 + s.n) := Lib.hid (by have := hP.out; rwa [hin2, List.take_length] at this)
          have HTot : Hid ((L.flatMap stB).length ≤ 65536) := Lib.hid (by have := hN.out; rw [hin2, List.take_length] at this; omega)
          clear hgo hN3 hP hN hN2 hi hin2
          go_wp2_with fail
          clear h1 h3 hin
          go_loopw [5, 6] (R2 L w) (fun _ i _ => n - (intOf i).toNat)
          case atStart => exact ⟨0, none, 0, 0, rfl, rfl, by omega, Lib.hid (by simp [World.ownsRow, u8s]), Lib.hid (below_of_drewN _ w d)⟩
          case round =>
            obtain ⟨i2, A2, n2, c2, rfl, rfl, hi2, hO2, hB2⟩ := hrel
            have HN2 : Hid (n2 ≤ 65536) := Lib.hid (by
              have h1 := hO2.out.1
              have h2 := row_le L i2
              have h3 := HTot.out
              rw [u8s_length] at h1
              omega)
            by_cases hin2 : i2 < n
            · have h4 : decide ((i2 : Int) < n) = true := decide_eq_true (by omega)
              obtain ⟨ad, s, rfl, hab, hsi, hsa, hat⟩ := (HL.out.later hB2.out).at_ hin2
              have hlen := HAll.out s (List.mem_of_getElem? hsi)
              have hh := hsa.head.len
              have HRd := Lib.hid (hsa.rd (by omega))
              have HSi := Lib.hid (And.intro hsi (And.intro hlen (And.intro hh (stB_len hsa))))
              obtain ⟨h, sA, sn, sc, sB⟩ := s
              obtain ⟨y0, y1, y2, y3, y4, y5, y6, y7, y8⟩ := hat
              clear hsi hlen hh hsa hab
              go_wp2_with fail
              clear y0 y1 y2 y3 y4 y5 y6 y7 y8
              refine (copyState_any ⟨h, sA, sn, sc, sB⟩ wr HRd.out).mono ?_
              rintro e w3 ⟨⟨h', A', n', c', B'⟩, rfl, ⟨e1, e2, e3, hok⟩, hb3⟩
              obtain rfl : h = h' := e1.symm
              obtain rfl : sB = B' := e2.symm
              obtain rfl : sn = n' := e3.symm
              have HB3 := Lib.hid (below_then hB2.out hb3)
              have HO3 := Lib.hid (own_kept hO2.out (Kept.of_new hb3 (fun _ => False)) (fun _ _ h => h))
              have HC3 := Lib.hid hok.rd
              clear hb3 hok hB2 hO2
              go_wp2_with fail
              refine (bytes_any ⟨h, A', sn, c', sB⟩ w3 HC3.out (by have h1 := HSi.out.2.1; have h2 := HSi.out.2.2.1; show sn ≤ 1073741824; omega)).mono ?_
              rintro e w4 ⟨u, rfl, hu, hb4⟩
              replace hu : w4.ownsRow w3.heap.size 5 1 u (20 + sn) (u8s (stB ⟨h, sA, sn, sc, sB⟩)) := hu
              obtain ⟨A4, c4, rfl, -, -, hr4⟩ := own_shape hu
              have HR4 := Lib.hid hr4
              have HB4 := Lib.hid (below_then HB3.out hb4)
              have HO4 := Lib.hid (own_kept HO3.out (Kept.of_new hb4 (fun _ => False)) (fun _ _ h => h))
              have hsn : sn ≤ 65535 := by have h1 := HSi.out.2.1; have h2 := HSi.out.2.2.1; omega
              have hn2 := HN2.out
              clear hu hr4 hb4 HB3 HO3
              go_wp2_with (at_builtin; go_must (refine wpList_app el_u8 rfl (.tmp 55) (.tmp 61) rfl HO4.out rfl HR4.out rfl u8s_one (by simp only [maxLen]; omega) (by omega) HB4.out.size ?_); intro v5 w5 ho5 hb5 _ _; obtain ⟨A5, c5, hv5, -, -, -⟩ := own_shape ho5; subst hv5; have HO5 := Lib.hid ho5; have HB5 := Lib.hid (HB4.out.trans hb5); clear ho5 hb5)
              go_roundw
              case rel =>
                refine ⟨i2 + 1, A5, n2 + (20 + sn), c5, rfl, by push_cast; rfl, by omega, ?_, HB5⟩
                have h9 := take_snoc HSi.out.1
                refine Lib.hid ?_
                rw [h9, List.flatMap_append, u8s_append]
                simpa using HO5.out
              case measure =>
                simp only [intOf]
                omega
            · have h4 : decide ((i2 : Int) < n) = false := decide_eq_false (by omega)
              have hi9 : i2 = L.length := by omega
              have HO := Lib.hid hO2.out
              rw [hi9, List.take_length] at HO
              obtain ⟨A9, c9, hv9, hc9, hm9, hr9⟩ := own_shape HO.out
              injection hv9 with hv91 _ hv92
              subst hv91 hv92
              have HR9 := Lib.hid hr9
              have HCp9 := Lib.hid (And.intro hc9 hm9)
              clear hi9 hr9 HO hO2 hc9 hm9
              go_wp2_with fail
              clear h4
              go_loopw [5, 7] (R3 L w) (fun _ i _ => n - (intOf i).toNat)
              case atStart => exact ⟨0, A2, n2, c2, rfl, rfl, by omega, Lib.hid (by simpa using HR9.out), HCp9.out.1, HCp9.out.2, HN2.out, hB2⟩
              case round =>
                obtain ⟨i3, A3, n3, c3, rfl, rfl, hi3, hR3, hc3, hm3, hn3, hB3⟩ := hrel
                clear HR9 HCp9 HN2
                by_cases hin3 : i3 < n
                · have h4 : decide ((i3 : Int) < n) = true := decide_eq_true (by omega)
                  obtain ⟨ad, s, rfl, hab, hsi, hsa, hat⟩ := (HL.out.later hB3.out).at_ hin3
                  have hlen := HAll.out s (List.mem_of_getElem? hsi)
                  have hh := hsa.head.len
                  have HRd := Lib.hid (hsa.rd (by omega))
                  obtain ⟨h, sA, sn, sc, sB⟩ := s
                  have HBl : Hid (sB.length = sn) := Lib.hid hsa.body.u8len
                  have HSi := Lib.hid (And.intro hsi (And.intro hlen hh))
                  have HAt := Lib.hid hat
                  obtain ⟨rs, hrs⟩ : ∃ rs, (L.drop (i3 + 1)).flatMap stB = rs := ⟨_, rfl⟩
                  have HRs := Lib.hid hrs
                  have hR : Hid (Reads wr wr.heap.size 1 A3 n3 (u8s (hdB h ++ sB ++ rs))) := Lib.hid (by
                    have h1 := hR3.out
                    rw [drop_cons hsi, List.flatMap_cons, hrs] at h1
                    exact h1)
                  have HRL : Hid ((hdB h ++ sB ++ rs).length = n3) := Lib.hid hR.out.u8len
                  have HOc : Hid (Oct (hdB h ++ sB ++ rs)) := Lib.hid (by
                    rw [← hrs]
                    refine Oct.append (Oct.append (hdB_oct hsa.head) hsa.oct) (oct_flat _ _ fun q hq => ?_)
                    have hq2 := HL.out.ok q (List.mem_of_mem_drop hq)
                    exact Oct.append (hdB_oct hq2.head) hq2.oct)
                  have HF := Lib.hid (read_first hsa.head rs (show h.len = 20 + (sB.length : Int) by rw [HBl.out]; exact hlen))
                  obtain ⟨m, hmd⟩ : ∃ m : Nat, m = 20 + sn := ⟨_, rfl⟩
                  have hm20 : 20 ≤ m := by omega
                  have hmn : m ≤ n3 := by
                    have h1 := HRL.out
                    rw [List.length_append, List.length_append, hdB_len, HBl.out] at h1
                    omega
                  have HMd := Lib.hid hmd
                  clear hsi hlen hh hsa hat hab hR3 hrs hmd
                  generalize hRg : hdB h ++ sB ++ rs = R at *
                  have HRg := Lib.hid hRg
                  clear hRg
                  go_wp2_with fail
                  refine (copyBytes_any A3 n3 c3 R wr hR.out (by omega)).mono ?_
                  rintro e w1 ⟨u, rfl, hu, hb1⟩
                  obtain ⟨A1, c1, rfl, hc1, hm1, hr1⟩ := own_shape hu
                  have HR1 := Lib.hid hr1
                  have HB1 := Lib.hid (below_then hB3.out hb1)
                  have HAt1 := Lib.hid (HAt.out.later hb1)
                  have HRd1 := Lib.hid (HRd.out.later hb1)
                  have HR31 := Lib.hid (hR.out.later hb1)
                  have HC1 := Lib.hid (And.intro hc1 hm1)
                  clear hu hr1 hb1 HAt HRd hR hc1 hm1
                  go_wp2_with fail
                  refine (read_yes A1 R.length c1 R w1 HR1.out HOc.out HC1.out.1 HC1.out.2 (by rw [HRL.out]; omega) HF.out.1).mono ?_
                  rintro e w2 ⟨⟨h', A', n', c', B'⟩, rfl, ⟨e1, e2, e3, hok⟩, hb2⟩
                  have HE : Hid (h' = h ∧ B' = sB) := Lib.hid ⟨e1.trans HF.out.2.1, e2.trans (by rw [HF.out.2.1]; exact HF.out.2.2)⟩
                  rw [show (hdAt R 0).len = (m : Int) by rw [HF.out.2.1, HMd.out]; have := HSi.out.2.1; omega]
                  have hb3 : Below w2.heap.size w2 (w2.alloc (.cells #[.int .u16 h'.age, .int .u8 h'.opts, .int .u8 h'.typ, .int .u32 h'.id, .int .u32 h'.adv, .int .i32 h'.seq, .int .u16 h'.sum, .int .u16 h'.len, .slice A' n' c'] 34)) := (Below.refl _ _).alloc (Nat.le_refl _) _
                  have HX3 := Lib.hid (Blk.new w2 34 (stC h' A' n' c'))
                  have HOk3 := Lib.hid (hok.rd.later hb3)
                  have HAt3 := Lib.hid ((HAt1.out.later hb2).later hb3)
                  have HRd3 := Lib.hid ((HRd1.out.later hb2).later hb3)
                  have HR33 := Lib.hid ((HR31.out.later hb2).later hb3)
                  have HB3 := Lib.hid (below_then (below_then HB1.out hb2) hb3)
                  unfold stC at HX3
                  clear e1 e2 e3 hok hb2 hb3 HAt1 HRd1 HR31 HB1 HR1 HC1
                  go_wp2_with fail
                  generalize hg8 : w2.heap.size = g8 at *
                  clear hg8
                  generalize w2.alloc (.cells #[.int .u16 h'.age, .int .u8 h'.opts, .int .u8 h'.typ, .int .u32 h'.id, .int .u32 h'.adv, .int .i32 h'.seq, .int .u16 h'.sum, .int .u16 h'.len, .slice A' n' c'] 34) = w3 at *
                  have HY : Hid ((fun W : World => Blk W g8 34 (stC h' A' n' c') ∧ StAt W (ad.add (i3 * 9)) ⟨h, sA, sn, sc, sB⟩) w3.drew) := Lib.hid ⟨HX3.out, HAt3.out⟩
                  refine wp_region_s (fun W : World => Blk W g8 34 (stC h' A' n' c') ∧ StAt W (ad.add (i3 * 9)) ⟨h, sA, sn, sc, sB⟩) [(0, true), (1, true), (2, true), (3, true), (4, true), (5, true), (6, true), (7, true), (8, true), (9, true), (10, true), (11, true), (12, true), (14, true), (15, true), (16, true), (13, true), (17, true), (18, false), (19, true), (20, true)] (by kernel_rfl) (fun _ d _ _ _ h => by cases d <;> exact h) ?_
                  simp only [List.map_cons, List.map_nil, nthOp_zero, nthOp_succ]
                  replace HOk3 := Lib.hid (show SE.rd w3.drew ⟨h', A', n', c', B'⟩ from HOk3.out.later (below_of_drewN _ w3 1))
                  replace HRd3 := Lib.hid (show SE.rd w3.drew ⟨h, sA, sn, sc, sB⟩ from HRd3.out.later (below_of_drewN _ w3 1))
                  replace HR33 := Lib.hid (show Reads w3.drew w3.drew.heap.size 1 A3 n3 (u8s R) from HR33.out)
                  replace HB3 := Lib.hid (show Below w.heap.size w w3.drew from below_drewN HB3.out 1)
                  clear HX3 HAt3
                  generalize w3.drew = w4 at *
                  have q1 : decide ((m : Int) < 20) = false := decide_eq_false (by omega)
                  have q2 : decide ((n3 : Int) < m) = false := decide_eq_false (by omega)
                  have q3 : decide (n3 < m) = false := decide_eq_false (by omega)
                  refine wpS_take HY (by kernel_rfl) (by intro W hW; obtain ⟨hW1, hW2⟩ := hW; obtain ⟨_, _, _, _, _, _, _, _, _⟩ := stC_facts hW1; obtain ⟨_, _, _, _, _, _, _, _, _⟩ := hW2; clear hW1; go_simp; try with_reducible rfl) ?_
                  refine wpS_take HY (by kernel_rfl) (by intro W hW; obtain ⟨hW1, hW2⟩ := hW; obtain ⟨_, _, _, _, _, _, _, _, _⟩ := stC_facts hW1; obtain ⟨_, _, _, _, _, _, _, _, _⟩ := hW2; clear hW1; go_simp; try with_reducible rfl) ?_
                  refine wpS_take HY (by kernel_rfl) (by intro W hW; obtain ⟨hW1, hW2⟩ := hW; obtain ⟨_, _, _, _, _, _, _, _, _⟩ := stC_facts hW1; obtain ⟨_, _, _, _, _, _, _, _, _⟩ := hW2; clear hW1; go_simp; try with_reducible rfl) ?_
                  refine wpS_take HY (by kernel_rfl) (by intro W hW; obtain ⟨hW1, hW2⟩ := hW; obtain ⟨_, _, _, _, _, _, _, _, _⟩ := stC_facts hW1; obtain ⟨_, _, _, _, _, _, _, _, _⟩ := hW2; clear hW1; go_simp; try with_reducible rfl) ?_
                  refine wpS_take HY (by kernel_rfl) (by intro W hW; obtain ⟨hW1, hW2⟩ := hW; obtain ⟨_, _, _, _, _, _, _, _, _⟩ := stC_facts hW1; obtain ⟨_, _, _, _, _, _, _, _, _⟩ := hW2; clear hW1; go_simp; try with_reducible rfl) ?_
                  refine wpS_take HY (by kernel_rfl) (by intro W hW; obtain ⟨hW1, hW2⟩ := hW; obtain ⟨_, _, _, _, _, _, _, _, _⟩ := stC_facts hW1; obtain ⟨_, _, _, _, _, _, _, _, _⟩ := hW2; clear hW1; go_simp; try with_reducible rfl) ?_
                  refine wpS_take HY (by kernel_rfl) (by intro W hW; obtain ⟨hW1, hW2⟩ := hW; obtain ⟨_, _, _, _, _, _, _, _, _⟩ := stC_facts hW1; obtain ⟨_, _, _, _, _, _, _, _, _⟩ := hW2; clear hW1; go_simp; try with_reducible rfl) ?_
                  refine wpS_take HY (by kernel_rfl) (by intro W hW; obtain ⟨hW1, hW2⟩ := hW; obtain ⟨_, _, _, _, _, _, _, _, _⟩ := stC_facts hW1; obtain ⟨_, _, _, _, _, _, _, _, _⟩ := hW2; clear hW1; go_simp; try with_reducible rfl) ?_
                  refine wpS_take HY (by kernel_rfl) (by intro W hW; obtain ⟨hW1, hW2⟩ := hW; obtain ⟨_, _, _, _, _, _, _, _, _⟩ := stC_facts hW1; obtain ⟨_, _, _, _, _, _, _, _, _⟩ := hW2; clear hW1; go_simp; try with_reducible rfl) ?_
                  refine wpS_take HY (by kernel_rfl) (by intro W hW; obtain ⟨hW1, hW2⟩ := hW; obtain ⟨_, _, _, _, _, _, _, _, _⟩ := stC_facts hW1; obtain ⟨_, _, _, _, _, _, _, _, _⟩ := hW2; clear hW1; go_simp; try with_reducible rfl) ?_
                  refine wpS_take HY (by kernel_rfl) (by intro W hW; obtain ⟨hW1, hW2⟩ := hW; obtain ⟨_, _, _, _, _, _, _, _, _⟩ := stC_facts hW1; obtain ⟨_, _, _, _, _, _, _, _, _⟩ := hW2; clear hW1; go_simp; try with_reducible rfl) ?_
                  refine wpS_take HY (by kernel_rfl) (by intro W hW; obtain ⟨hW1, hW2⟩ := hW; obtain ⟨_, _, _, _, _, _, _, _, _⟩ := stC_facts hW1; obtain ⟨_, _, _, _, _, _, _, _, _⟩ := hW2; clear hW1; go_simp; try with_reducible rfl) ?_
                  refine wpS_take HY (by kernel_rfl) (by intro W hW; obtain ⟨hW1, hW2⟩ := hW; obtain ⟨_, _, _, _, _, _, _, _, _⟩ := stC_facts hW1; obtain ⟨_, _, _, _, _, _, _, _, _⟩ := hW2; clear hW1; go_simp; try with_reducible rfl) ?_
                  refine wpS_take HY (by kernel_rfl) (by intro W hW; obtain ⟨hW1, hW2⟩ := hW; obtain ⟨_, _, _, _, _, _, _, _, _⟩ := stC_facts hW1; obtain ⟨_, _, _, _, _, _, _, _, _⟩ := hW2; clear hW1; go_simp; try with_reducible rfl) ?_
                  refine wpS_take HY (by kernel_rfl) (by intro W hW; obtain ⟨hW1, hW2⟩ := hW; obtain ⟨_, _, _, _, _, _, _, _, _⟩ := stC_facts hW1; obtain ⟨_, _, _, _, _, _, _, _, _⟩ := hW2; clear hW1; go_simp; try with_reducible rfl) ?_
                  refine wpS_take HY (by kernel_rfl) (by intro W hW; obtain ⟨hW1, hW2⟩ := hW; obtain ⟨_, _, _, _, _, _, _, _, _⟩ := stC_facts hW1; obtain ⟨_, _, _, _, _, _, _, _, _⟩ := hW2; clear hW1; go_simp; try with_reducible rfl) ?_
                  refine wpS_take HY (by kernel_rfl) (by intro W hW; obtain ⟨hW1, hW2⟩ := hW; obtain ⟨_, _, _, _, _, _, _, _, _⟩ := stC_facts hW1; obtain ⟨_, _, _, _, _, _, _, _, _⟩ := hW2; clear hW1; go_simp; try with_reducible rfl) ?_
                  refine wpS_take HY (by kernel_rfl) (by intro W hW; obtain ⟨hW1, hW2⟩ := hW; obtain ⟨_, _, _, _, _, _, _, _, _⟩ := stC_facts hW1; obtain ⟨_, _, _, _, _, _, _, _, _⟩ := hW2; clear hW1; go_simp; try with_reducible rfl) ?_
                  go_simp
                  refine wpS_do fun K hK => ?_
                  go_wp2_with fail
                  refine (eqState_any ⟨h', A', n', c', B'⟩ ⟨h, sA, sn, sc, sB⟩ w4 HOk3.out HRd3.out).mono ?_
                  rintro e w5 ⟨rfl, hb5⟩
                  rw [show eqS ⟨h', A', n', c', B'⟩ ⟨h, sA, sn, sc, sB⟩ = true by unfold eqS; rw [HE.out.1, HE.out.2, (eqHd_iff _ _).2 rfl]; simp]
                  have HR5 := Lib.hid (HR33.out.later hb5)
                  have HB5 := Lib.hid (below_then HB3.out hb5)
                  have HY5 : Hid ((fun W : World => Blk W g8 34 (stC h' A' n' c') ∧ StAt W (ad.add (i3 * 9)) ⟨h, sA, sn, sc, sB⟩) w5) := Lib.hid ⟨HY.out.1.later hb5, HY.out.2.later hb5⟩
                  clear hb5 HR33 HB3 HOk3 HRd3 HY
                  go_wp2_with fail
                  refine hK.out _ _ HY5.out ?_
                  clear hK K
                  refine wpS_take HY5 (by kernel_rfl) (by intro W hW; clear hW; go_simp; try with_reducible rfl) ?_
                  refine wpS_take HY5 (by kernel_rfl) (by intro W hW; clear hW; go_simp; try with_reducible rfl) ?_
                  refine wpS_nil ?_
                  go_simp
                  clear HY5 q1 q2 q3
                  have HRc := Lib.hid (HR5.out.u8cut (k := m) hmn hc3)
                  have hmn1 : (m : Int) ≤ n3 := by omega
                  have hdr : R.drop m = rs := by
                    rw [← HRg.out, show m = (hdB h ++ sB).length by rw [List.length_append, hdB_len, HBl.out]; exact HMd.out, List.drop_left]
                  rw [hdr] at HRc
                  clear hdr
                  go_wp2_with fail
                  go_roundw
                  case rel =>
                    refine ⟨i3 + 1, _, n3 - m, c3 - m, rfl, by push_cast; rfl, by omega, ?_, by omega, by omega, by omega, HB5⟩
                    rw [HRs.out]
                    exact HRc
                  case measure =>
                    simp only [intOf]
                    omega
                · have h4 : decide ((i3 : Int) < n) = false := decide_eq_false (by omega)
                  have hn0 : n3 = 0 := by
                    have h1 := hR3.out.u8len
                    rw [List.drop_eq_nil_of_le (by omega)] at h1
                    simpa using h1.symm
                  subst hn0
                  clear hR3
                  go_wp2_with fail
                  refine (lives_any _).mono ?_
                  rintro e wl ⟨rfl, hbl⟩
                  go_wp2_with fail
                  go_ret
                  exact ⟨rfl, below_then hB3.out hbl⟩
        · have h2 : decide ((65536 : Int) < N) = true := decide_eq_true (by omega)
          clear hgo hN3
          go_wp2_with fail
          refine (lives_any _).mono ?_
          rintro e wl ⟨rfl, hbl⟩
          go_wp2_with fail
          go_ret
          exact ⟨rfl, below_then (below_of_drewN _ w d) hbl⟩
end Go.Proofs.Ytljedcfpbdompaa
