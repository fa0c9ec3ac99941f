/-
  The law OctetBack, walked.
-/
import Derived.Test.YtlnkjmjddecjdaaOct5
import Derived.Test.YtlnkjmjddecjdaaOctMath
namespace Go.Proofs.Ytlnkjmjddecjdaa
set_option linter.unusedVariables false
open Go.RowKit

def u32s (zs : List Int) : List Value := zs.map (Value.int .u32)
theorem Reads.u32at {w : World} {B n k : Nat} {A : Option Addr} {zs : List Int} (h : Reads w B 1 A n (u32s zs)) (hk : k < n) :
    ∃ ad x, A = some ad ∧ ad.block < B ∧ Hid (zs[k]? = some x) ∧ w.cell? (ad.add k) = some (.int .u32 x) := by
  obtain ⟨ad, u, e, hb, hx, hc⟩ := h.at_ hk
  simp only [u32s, List.getElem?_map, Option.map_eq_some_iff] at hx
  obtain ⟨x, hx', rfl⟩ := hx
  exact ⟨ad, x, e, hb, hx', hc⟩
/-- All are numbers of 32 bits. -/
def Wrd (zs : List Int) : Prop := ∀ (i : Nat) (x : Int), zs[i]? = some x → 0 ≤ x ∧ x ≤ 4294967295
/-- What holds at the head of each round that writes. -/
def W1 (w : World) (g n : Nat) (vs ss : List Int) (i : Value) (wr : World) : Prop :=
  ∃ (k : Nat) (v : Value), i = .int .i64 k ∧ k ≤ n ∧ k ≤ ss.length ∧ WS w.heap.size wr g v ⟨4 * (n : Int), 0, outBytes vs ss k⟩ ∧ Below w.heap.size w wr

/-- What holds at the head of each round that reads. -/
def W2 (w : World) (g n L c : Nat) (A : Option Addr) (B vs ss : List Int) (i : Value) (wr : World) : Prop :=
  ∃ k : Nat, i = .int .i64 k ∧ k ≤ n ∧ k ≤ ss.length ∧ RS wr g A L c ⟨B, (outBytes vs ss k).length, 0⟩ ∧ Below w.heap.size w wr

set_option maxRecDepth 100000 in
set_option maxHeartbeats 2000000 in
theorem octetBack_walk (A A' : Option Addr) (n c n' c' : Nat) (vs ss : List Int) (w : World) (hx : Reads w w.heap.size 1 A n (u32s vs)) (hy : Reads w w.heap.size 1 A' n' (u8s ss)) (hov : Wrd vs) (hos : Oct ss)
    (hc : n ≤ c) (hm : c ≤ 9223372036854775807) (hc' : n' ≤ c') (hm' : c' ≤ 9223372036854775807) :
    Calls Try.prog 3 #[.slice A n c, .slice A' n' c'] w fun e w' => e = .returned (.bool true) ∧ Below w.heap.size w w' := by
  by_cases hbig : 1024 < n
  · go_enter Try.func3, Try.ntmps3
    go_wp2_with (go_at_call 5; refine (lives_any _).mono ?_; rintro e w' ⟨rfl, hb⟩)
    go_ret
    exact ⟨rfl, hb⟩
  have hlv : Hid (vs.length = n) := by
    have := hx.1
    show _ = _
    simpa [u32s] using this
  have hls := Lib.hid hy.u8len
  have HX := Lib.hid hx
  have HY := Lib.hid hy
  have HV := Lib.hid hov
  have HS := Lib.hid hos
  clear hx hy hov hos
  go_enter Try.func3, Try.ntmps3
  go_wp2_with (go_at_call 6; refine (write_any _ w (by omega) (by omega)).mono ?_; rintro e w1 ⟨g, rfl, h1, hb1⟩; rw [show max (4 * (n : Int)) 0 = 4 * (n : Int) from by omega] at h1; have H1 := Lib.hid (And.intro h1 hb1); clear h1 hb1)
  go_loopw [6] (fun i wr => W1 w g n vs ss i wr) (fun i _ => n - (intOf i).toNat)
  case atStart => exact ⟨0, _, rfl, by omega, by omega, by rw [out_zero]; exact H1.out.1, H1.out.2⟩
  case round =>
    clear H1
    obtain ⟨k, v, rfl, hk, hk2, hws, hbw⟩ := hrel
    rw [hls.out] at hk2
    have HW := Lib.hid (And.intro hws hbw)
    clear hws hbw
    by_cases hlt : k < n ∧ k < n'
    · obtain ⟨hlt1, hlt2⟩ := hlt
      obtain ⟨ad, x, hA, _, hx1, hcx⟩ := (HX.out.later HW.out.2).u32at hlt1
      obtain ⟨ad', z, hA', _, hz1, hcz⟩ := (HY.out.later HW.out.2).u8at hlt2
      have hxb := HV.out k x hx1.out
      have hzb := HS.out k z hz1.out
      have hnb := num_bound x z hxb.1 hxb.2
      have hol := out_length vs ss k
      have HN := Lib.hid (num_any w.heap.size g v ⟨4 * (n : Int), 0, outBytes vs ss k⟩ (numOf x z) (szOf z : Int) wr HW.out.1 hnb.1 hnb.2 (by omega) (by unfold szOf; omega) (by show (outBytes vs ss k).length + 4 ≤ _; omega) (by show 0 ≤ 4 * (n : Int); omega) (by show 4 * (n : Int) ≤ _; omega))
      rw [num_step hxb.1 hxb.2 (by omega), ← out_succ hx1.out hz1.out] at HN
      subst hA hA'
      rcases sz_cases z with ⟨hz, hsz⟩ | ⟨hz, hsz⟩ | ⟨hz, hsz⟩ | ⟨hz, hsz⟩
      · rw [show numOf x z = x / 16777216 from by unfold numOf; rw [hsz]; rfl, hsz, show ((1 : Nat) : Int) = 1 from rfl] at HN
        clear hsz hnb
        go_wp2_with fail
        refine HN.out.mono ?_
        rintro e w2 ⟨rfl, hp⟩
        have HB2 := Lib.hid (HW.out.2.trans (WPost.below HW.out.1 hp))
        obtain ⟨v2, h2, _, _⟩ := hp
        have H2 := Lib.hid h2
        clear h2
        go_wp2
        go_roundw
        case rel => exact ⟨k + 1, v2, by go_num, by omega, by rw [hls.out]; omega, H2.out, HB2.out⟩
        case measure => simp [intOf]; omega
      · rw [show numOf x z = x / 65536 from by unfold numOf; rw [hsz]; rfl, hsz, show ((2 : Nat) : Int) = 2 from rfl] at HN
        clear hsz hnb
        go_wp2_with fail
        refine HN.out.mono ?_
        rintro e w2 ⟨rfl, hp⟩
        have HB2 := Lib.hid (HW.out.2.trans (WPost.below HW.out.1 hp))
        obtain ⟨v2, h2, _, _⟩ := hp
        have H2 := Lib.hid h2
        clear h2
        go_wp2
        go_roundw
        case rel => exact ⟨k + 1, v2, by go_num, by omega, by rw [hls.out]; omega, H2.out, HB2.out⟩
        case measure => simp [intOf]; omega
      · rw [show numOf x z = x / 256 from by unfold numOf; rw [hsz]; rfl, hsz, show ((3 : Nat) : Int) = 3 from rfl] at HN
        clear hsz hnb
        go_wp2_with fail
        refine HN.out.mono ?_
        rintro e w2 ⟨rfl, hp⟩
        have HB2 := Lib.hid (HW.out.2.trans (WPost.below HW.out.1 hp))
        obtain ⟨v2, h2, _, _⟩ := hp
        have H2 := Lib.hid h2
        clear h2
        go_wp2
        go_roundw
        case rel => exact ⟨k + 1, v2, by go_num, by omega, by rw [hls.out]; omega, H2.out, HB2.out⟩
        case measure => simp [intOf]; omega
      · rw [show numOf x z = x from by unfold numOf; rw [hsz]; simp, hsz, show ((4 : Nat) : Int) = 4 from rfl] at HN
        clear hsz hnb
        go_wp2_with fail
        refine HN.out.mono ?_
        rintro e w2 ⟨rfl, hp⟩
        have HB2 := Lib.hid (HW.out.2.trans (WPost.below HW.out.1 hp))
        obtain ⟨v2, h2, _, _⟩ := hp
        have H2 := Lib.hid h2
        clear h2
        go_wp2
        go_roundw
        case rel => exact ⟨k + 1, v2, by go_num, by omega, by rw [hls.out]; omega, H2.out, HB2.out⟩
        case measure => simp [intOf]; omega
    · have hkm : Hid (k = min vs.length ss.length) := by
        show _ = _
        rw [hlv.out, hls.out]
        omega
      obtain ⟨B, hB⟩ : ∃ B, B = outBytes vs ss k := ⟨_, rfl⟩
      have HB := Lib.hid hB
      have HBo : Hid (Oct B) := by rw [hB]; exact out_oct HV.out k
      have hBl : B.length ≤ 4096 := by
        have := out_length vs ss k
        rw [← hB] at this
        omega
      rw [← hB] at HW
      clear hB
      obtain ⟨L, hL⟩ : ∃ L, L = B.length := ⟨_, rfl⟩
      have HL := Lib.hid hL
      rw [← hL] at hBl
      have HD := Lib.hid (done_any w.heap.size g v ⟨4 * (n : Int), 0, B⟩ wr HW.out.1 (by show B.length ≤ _; omega))
      clear hL
      by_cases hlt1 : k < n
      all_goals
        go_wp2_with fail
        refine HD.out.mono ?_
        rintro e w5 ⟨u, rfl, hu, hb5⟩
        rw [if_pos rfl] at hu
        obtain ⟨A5, c5, hu5, hc5, hm5, hr5⟩ := own_shape hu
        have hu5' : u = .slice A5 L c5 := by rw [hu5, HL.out]
        subst hu5'
        have HB5 := Lib.hid (below_then HW.out.2 hb5)
        have HR5 : Hid (Reads w5 w5.heap.size 1 A5 L (u8s B)) := by rw [HL.out]; exact hr5
        clear hu hu5 hb5 hr5 hc5 HD
        go_wp2_with fail
        refine (read_any A5 L c5 B w5 HR5.out (by omega)).mono ?_
        rintro e w6 ⟨g6, A6, c6, rfl, h6, hg6, hb6⟩
        have HB6 := Lib.hid (below_then HB5.out hb6)
        have HG6 : Hid (w.heap.size ≤ g6) := Nat.le_trans HB5.out.size hg6
        have HR6 := Lib.hid h6
        clear h6 hg6 hb6 HR5
        go_wp2
        go_loopw [11] (fun i wr => W2 w g6 n L c6 A6 B vs ss i wr) (fun i _ => n - (intOf i).toNat)
        case atStart => exact ⟨0, rfl, by omega, by omega, by rw [out_zero]; exact HR6.out, HB6.out⟩
        case round =>
          clear HR6 HB6 HW HB5
          obtain ⟨k2, rfl, hk3, hk4, hrs, hbw⟩ := hrel
          rw [hls.out] at hk4
          have HR := Lib.hid (And.intro hrs hbw)
          clear hrs hbw
          by_cases hlt : k2 < n ∧ k2 < n'
          · obtain ⟨hlt3, hlt4⟩ := hlt
            obtain ⟨ad, x, hA, hadb, hx1, hcx⟩ := HX.out.u32at hlt3
            replace hcx := (HR.out.2.cell (p := ad.add k2) (by rw [block_of_add]; exact hadb)).trans hcx
            obtain ⟨ad', z, hA', _, hz1, hcz⟩ := (HY.out.later HR.out.2).u8at hlt4
            have hxb := HV.out k2 x hx1.out
            have hzb := HS.out k2 z hz1.out
            have HN := Lib.hid (rnum_any _ g6 A6 L c6 _ (szOf z : Int) (HR.out.1.drewN 1) HBo.out (by omega) (by unfold szOf; omega))
            unfold RNumPost at HN
            obtain ⟨post, hpost⟩ := out_prefix vs ss (k2 + 1)
            rw [← hkm.out, ← HB.out, out_succ hx1.out hz1.out] at hpost
            have hstep := read_step (x := x) (z := z) (pre := outBytes vs ss k2) (post := post) hxb.1 hxb.2
            rw [← hpost, ← out_succ hx1.out hz1.out] at hstep
            rw [hstep] at HN
            clear hstep hpost
            have HSx : Hid ((fun W : World => W.cell? (ad.add k2) = some (.int .u32 x)) wr.drew) := hcx
            subst hA hA'
            rcases sz_cases z with ⟨hz, hsz⟩ | ⟨hz, hsz⟩ | ⟨hz, hsz⟩ | ⟨hz, hsz⟩
            · rw [show numOf x z = x / 16777216 from by unfold numOf; rw [hsz]; rfl, hsz, show ((1 : Nat) : Int) = 1 from rfl] at HN
              clear hsz
              have hl1 : IntKind.i64.wrap 3 = 3 := by rfl
              have hl2 : IntKind.i64.wrap 24 = 24 := by rfl
              go_wp2
              refine wp_region_s (fun W => W.cell? (ad.add k2) = some (.int .u32 x)) [(0, true), (1, true), (3, true), (4, true), (5, true), (7, true), (8, true), (9, true), (6, true), (10, true), (2, false), (11, true)] (by kernel_rfl) (fun _ d _ _ _ h => by cases d <;> exact h) ?_
              simp only [List.map_cons, List.map_nil, nthOp_zero, nthOp_succ]
              refine wpS_take HSx (by rfl) (by intro W hW; go_simp; try with_reducible rfl) ?_
              refine wpS_take HSx (by rfl) (by intro W hW; go_simp; try with_reducible rfl) ?_
              refine wpS_take HSx (by rfl) (by intro W hW; go_simp; try with_reducible rfl) ?_
              refine wpS_take HSx (by rfl) (by intro W hW; go_simp; try with_reducible rfl) ?_
              refine wpS_take HSx (by rfl) (by intro W hW; go_simp; try with_reducible rfl) ?_
              refine wpS_take HSx (by rfl) (by intro W hW; go_simp; try with_reducible rfl) ?_
              refine wpS_take HSx (by rfl) (by intro W hW; go_simp; try with_reducible rfl) ?_
              refine wpS_take HSx (by rfl) (by intro W hW; go_simp; try with_reducible rfl) ?_
              refine wpS_take HSx (by rfl) (by intro W hW; go_simp; try with_reducible rfl) ?_
              refine wpS_take HSx (by rfl) (by intro W hW; go_simp; try with_reducible rfl) ?_
              refine wpS_do fun K1 hK1 => ?_
              go_wp2_with fail
              refine HN.out.mono ?_
              rintro e w7 ⟨rfl, h7, k7⟩
              have HR7 := Lib.hid h7
              have HB7 := Lib.hid (HR.out.2.drew.trans (k7.below (B := w.heap.size) (fun i hi => by rw [hi]; exact HG6.out) (by have := HR.out.2.size; exact this)))
              have HSx7 : Hid ((fun W : World => W.cell? (ad.add k2) = some (.int .u32 x)) w7) := by
                have hc1 := HSx.out
                show _ = _
                rw [← hc1]
                refine World.cell?_of_block ?_
                rw [block_of_add]
                have := HG6.out
                exact k7.block ad.block (Nat.lt_of_lt_of_le hadb HR.out.2.size) (by omega)
              clear h7 k7 HN
              go_wp2
              refine hK1.out _ _ HSx7.out ?_
              clear hK1 K1
              refine wpS_take HSx7 (by rfl) (by intro W hW; go_simp; try with_reducible rfl) ?_
              refine wpS_nil ?_
              go_wp2
              go_roundw
              case rel => exact ⟨k2 + 1, by go_num, by omega, by rw [hls.out]; omega, HR7.out, HB7.out⟩
              case measure => simp [intOf]; omega
            · rw [show numOf x z = x / 65536 from by unfold numOf; rw [hsz]; rfl, hsz, show ((2 : Nat) : Int) = 2 from rfl] at HN
              clear hsz
              have hl1 : IntKind.i64.wrap 2 = 2 := by rfl
              have hl2 : IntKind.i64.wrap 16 = 16 := by rfl
              go_wp2
              refine wp_region_s (fun W => W.cell? (ad.add k2) = some (.int .u32 x)) [(0, true), (1, true), (3, true), (4, true), (5, true), (7, true), (8, true), (9, true), (6, true), (10, true), (2, false), (11, true)] (by kernel_rfl) (fun _ d _ _ _ h => by cases d <;> exact h) ?_
              simp only [List.map_cons, List.map_nil, nthOp_zero, nthOp_succ]
              refine wpS_take HSx (by rfl) (by intro W hW; go_simp; try with_reducible rfl) ?_
              refine wpS_take HSx (by rfl) (by intro W hW; go_simp; try with_reducible rfl) ?_
              refine wpS_take HSx (by rfl) (by intro W hW; go_simp; try with_reducible rfl) ?_
              refine wpS_take HSx (by rfl) (by intro W hW; go_simp; try with_reducible rfl) ?_
              refine wpS_take HSx (by rfl) (by intro W hW; go_simp; try with_reducible rfl) ?_
              refine wpS_take HSx (by rfl) (by intro W hW; go_simp; try with_reducible rfl) ?_
              refine wpS_take HSx (by rfl) (by intro W hW; go_simp; try with_reducible rfl) ?_
              refine wpS_take HSx (by rfl) (by intro W hW; go_simp; try with_reducible rfl) ?_
              refine wpS_take HSx (by rfl) (by intro W hW; go_simp; try with_reducible rfl) ?_
              refine wpS_take HSx (by rfl) (by intro W hW; go_simp; try with_reducible rfl) ?_
              refine wpS_do fun K1 hK1 => ?_
              go_wp2_with fail
              refine HN.out.mono ?_
              rintro e w7 ⟨rfl, h7, k7⟩
              have HR7 := Lib.hid h7
              have HB7 := Lib.hid (HR.out.2.drew.trans (k7.below (B := w.heap.size) (fun i hi => by rw [hi]; exact HG6.out) (by have := HR.out.2.size; exact this)))
              have HSx7 : Hid ((fun W : World => W.cell? (ad.add k2) = some (.int .u32 x)) w7) := by
                have hc1 := HSx.out
                show _ = _
                rw [← hc1]
                refine World.cell?_of_block ?_
                rw [block_of_add]
                have := HG6.out
                exact k7.block ad.block (Nat.lt_of_lt_of_le hadb HR.out.2.size) (by omega)
              clear h7 k7 HN
              go_wp2
              refine hK1.out _ _ HSx7.out ?_
              clear hK1 K1
              refine wpS_take HSx7 (by rfl) (by intro W hW; go_simp; try with_reducible rfl) ?_
              refine wpS_nil ?_
              go_wp2
              go_roundw
              case rel => exact ⟨k2 + 1, by go_num, by omega, by rw [hls.out]; omega, HR7.out, HB7.out⟩
              case measure => simp [intOf]; omega
            · rw [show numOf x z = x / 256 from by unfold numOf; rw [hsz]; rfl, hsz, show ((3 : Nat) : Int) = 3 from rfl] at HN
              clear hsz
              have hl1 : IntKind.i64.wrap 1 = 1 := by rfl
              have hl2 : IntKind.i64.wrap 8 = 8 := by rfl
              go_wp2
              refine wp_region_s (fun W => W.cell? (ad.add k2) = some (.int .u32 x)) [(0, true), (1, true), (3, true), (4, true), (5, true), (7, true), (8, true), (9, true), (6, true), (10, true), (2, false), (11, true)] (by kernel_rfl) (fun _ d _ _ _ h => by cases d <;> exact h) ?_
              simp only [List.map_cons, List.map_nil, nthOp_zero, nthOp_succ]
              refine wpS_take HSx (by rfl) (by intro W hW; go_simp; try with_reducible rfl) ?_
              refine wpS_take HSx (by rfl) (by intro W hW; go_simp; try with_reducible rfl) ?_
              refine wpS_take HSx (by rfl) (by intro W hW; go_simp; try with_reducible rfl) ?_
              refine wpS_take HSx (by rfl) (by intro W hW; go_simp; try with_reducible rfl) ?_
              refine wpS_take HSx (by rfl) (by intro W hW; go_simp; try with_reducible rfl) ?_
              refine wpS_take HSx (by rfl) (by intro W hW; go_simp; try with_reducible rfl) ?_
              refine wpS_take HSx (by rfl) (by intro W hW; go_simp; try with_reducible rfl) ?_
              refine wpS_take HSx (by rfl) (by intro W hW; go_simp; try with_reducible rfl) ?_
              refine wpS_take HSx (by rfl) (by intro W hW; go_simp; try with_reducible rfl) ?_
              refine wpS_take HSx (by rfl) (by intro W hW; go_simp; try with_reducible rfl) ?_
              refine wpS_do fun K1 hK1 => ?_
              go_wp2_with fail
              refine HN.out.mono ?_
              rintro e w7 ⟨rfl, h7, k7⟩
              have HR7 := Lib.hid h7
              have HB7 := Lib.hid (HR.out.2.drew.trans (k7.below (B := w.heap.size) (fun i hi => by rw [hi]; exact HG6.out) (by have := HR.out.2.size; exact this)))
              have HSx7 : Hid ((fun W : World => W.cell? (ad.add k2) = some (.int .u32 x)) w7) := by
                have hc1 := HSx.out
                show _ = _
                rw [← hc1]
                refine World.cell?_of_block ?_
                rw [block_of_add]
                have := HG6.out
                exact k7.block ad.block (Nat.lt_of_lt_of_le hadb HR.out.2.size) (by omega)
              clear h7 k7 HN
              go_wp2
              refine hK1.out _ _ HSx7.out ?_
              clear hK1 K1
              refine wpS_take HSx7 (by rfl) (by intro W hW; go_simp; try with_reducible rfl) ?_
              refine wpS_nil ?_
              go_wp2
              go_roundw
              case rel => exact ⟨k2 + 1, by go_num, by omega, by rw [hls.out]; omega, HR7.out, HB7.out⟩
              case measure => simp [intOf]; omega
            · rw [show numOf x z = x from by unfold numOf; rw [hsz]; simp, hsz, show ((4 : Nat) : Int) = 4 from rfl] at HN
              clear hsz
              have hl1 : IntKind.i64.wrap 0 = 0 := by rfl
              go_wp2
              refine wp_region_s (fun W => W.cell? (ad.add k2) = some (.int .u32 x)) [(0, true), (1, true), (3, true), (4, true), (5, true), (7, true), (8, true), (9, true), (6, true), (10, true), (2, false), (11, true)] (by kernel_rfl) (fun _ d _ _ _ h => by cases d <;> exact h) ?_
              simp only [List.map_cons, List.map_nil, nthOp_zero, nthOp_succ]
              refine wpS_take HSx (by rfl) (by intro W hW; go_simp; try with_reducible rfl) ?_
              refine wpS_take HSx (by rfl) (by intro W hW; go_simp; try with_reducible rfl) ?_
              refine wpS_take HSx (by rfl) (by intro W hW; go_simp; try with_reducible rfl) ?_
              refine wpS_take HSx (by rfl) (by intro W hW; go_simp; try with_reducible rfl) ?_
              refine wpS_take HSx (by rfl) (by intro W hW; go_simp; try with_reducible rfl) ?_
              refine wpS_take HSx (by rfl) (by intro W hW; go_simp; try with_reducible rfl) ?_
              refine wpS_take HSx (by rfl) (by intro W hW; go_simp; try with_reducible rfl) ?_
              refine wpS_take HSx (by rfl) (by intro W hW; go_simp; try with_reducible rfl) ?_
              refine wpS_take HSx (by rfl) (by intro W hW; go_simp; try with_reducible rfl) ?_
              refine wpS_take HSx (by rfl) (by intro W hW; go_simp; try with_reducible rfl) ?_
              refine wpS_do fun K1 hK1 => ?_
              go_wp2_with fail
              refine HN.out.mono ?_
              rintro e w7 ⟨rfl, h7, k7⟩
              have HR7 := Lib.hid h7
              have HB7 := Lib.hid (HR.out.2.drew.trans (k7.below (B := w.heap.size) (fun i hi => by rw [hi]; exact HG6.out) (by have := HR.out.2.size; exact this)))
              have HSx7 : Hid ((fun W : World => W.cell? (ad.add k2) = some (.int .u32 x)) w7) := by
                have hc1 := HSx.out
                show _ = _
                rw [← hc1]
                refine World.cell?_of_block ?_
                rw [block_of_add]
                have := HG6.out
                exact k7.block ad.block (Nat.lt_of_lt_of_le hadb HR.out.2.size) (by omega)
              clear h7 k7 HN
              go_wp2
              refine hK1.out _ _ HSx7.out ?_
              clear hK1 K1
              refine wpS_take HSx7 (by rfl) (by intro W hW; go_simp; try with_reducible rfl) ?_
              refine wpS_nil ?_
              go_wp2
              go_roundw
              case rel => exact ⟨k2 + 1, by go_num, by omega, by rw [hls.out]; omega, HR7.out, HB7.out⟩
              case measure => simp [intOf]; omega
          · have hk2 : k2 = k := by
              have := hkm.out
              rw [hlv.out, hls.out] at this
              omega
            subst hk2
            rw [← HB.out, ← HL.out] at HR
            have H1 := Lib.hid (err_any _ g6 A6 L c6 _ HR.out.1)
            have h2 := toBelow (left_any _ g6 A6 L c6 _ HR.out.1)
            have hz : (⟨B, L, 0⟩ : Rd).left = 0 := by
              unfold Rd.left
              rw [if_pos rfl, ← HL.out]
              show (L : Int) - L = 0
              omega
            rw [hz] at h2
            have H2 := Lib.hid h2
            clear h2 hz
            have H3 := fun (W : World) (hb : Below wr.heap.size wr W) => at_any W g6 A6 L c6 _ (HR.out.1.later hb)
            replace H3 := Lib.hid H3
            by_cases hlt3 : k2 < n
            all_goals
              go_wp2_with (first
                | (go_at_call 11; refine H1.out.mono ?_; rintro e w' ⟨rfl, rfl⟩)
                | (go_at_call 12; refine H2.out.mono ?_; rintro e w9 ⟨rfl, hb9⟩; have HB9 := Lib.hid hb9; clear hb9)
                | (go_at_call 13; refine (H3.out _ HB9.out).mono ?_; rintro e w' ⟨rfl, rfl⟩)
                | (go_at_call 5; refine (lives_any _).mono ?_; rintro e w10 ⟨rfl, hb10⟩))
              go_ret
              exact ⟨rfl, below_then (below_then HR.out.2 HB9.out) hb10⟩
end Go.Proofs.Ytlnkjmjddecjdaa
