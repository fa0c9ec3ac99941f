/-
  The reference's padding, walked.
-/
import Derived.Test.YtkgdeneonobibaaDig6
import Derived.Test.YtkgdeneonobibaaOwn
namespace Go.Proofs.Ytkgdeneonobibaa
set_option linter.unusedVariables false
open Go.RowKit

def PadAt (w w' : World) (xs : List Int) (e : Ending) : Prop := ∃ v, e = .returned v ∧ OwnB w w' v (pad xs)

set_option maxHeartbeats 1000000 in
theorem refPadded_any (A : Option Addr) (n c : Nat) (xs : List Int) (w : World) (hx : Reads w w.heap.size 1 A n (u8s xs)) (hn : n ≤ 1099511627776) :
    Calls Try.prog 121 #[.slice A n c] w fun e w' => PadAt w w' xs e := by
  have hlx := Lib.hid hx.u8len
  have H0 := OwnB.nil w
  go_enter Try.func121, Try.ntmps121
  go_wp2_with (first
    | (at_builtin; refine wpList_app el_u8 rfl (.tmp 6) (.tmp 7) rfl H0.1 rfl hx rfl u8s_one (by simp only [maxLen, List.length_nil]; omega) (by simp only [List.length_nil]; omega) (Nat.le_refl _) ?_; intro v1 w1 ho1 hb1 _ _; have H1 := Lib.hid (H0.app rfl hlx.out ho1 hb1); clear ho1 hb1 hx)
    | (at_builtin; refine wpList_app el_u8 rfl (.tmp 9) (.tmp 10) rfl (H1.out.own (by rw [List.nil_append, hlx.out]) (.cells #[.int .u8 128] 5)) rfl (Reads.one_new w1 (.int .u8 128) 5) rfl (one_u8 _) (by simp only [maxLen]; omega) (by omega) (H1.out.room _) ?_; intro v2 w2 ho2 hb2 _ _; have H2 := Lib.hid (H1.out.push (by rw [List.nil_append, hlx.out]) ho2 hb2); clear ho2 hb2))
  obtain ⟨Z, hZ⟩ : ∃ Z, Z = (119 - n % 64) % 64 := ⟨_, rfl⟩
  have hZb : Z ≤ 63 := by omega
  have HZ := Lib.hid hZ
  clear hZ H0 H1
  go_loopw [3] (fun v wq => ∃ z : Nat, z ≤ Z ∧ OwnB w wq v (xs ++ [128] ++ List.replicate z 0)) (fun v _ => n + 200 - lenOf v)
  case atStart => exact ⟨0, by omega, by simpa using H2.out⟩
  case round =>
    clear H2
    obtain ⟨z, hz, hcq⟩ := hrel
    have hLl : (xs ++ [128] ++ List.replicate z 0).length = n + 1 + z := by simp [hlx.out]; omega
    obtain ⟨g, cap, hv⟩ := hcq.form (by omega)
    have HLl := Lib.hid hLl
    rw [hLl] at hv
    clear hLl
    subst hv
    have HC := Lib.hid hcq
    clear hcq
    obtain ⟨wo, rfl⟩ : ∃ wo : World, wo = wr := ⟨_, rfl⟩
    by_cases hzZ : z < Z
    · have hb : (((n + 1 + z : Nat) : Int) % 64 != 56) = true := by simp; have := HZ.out; omega
      go_wp2_with (at_builtin; refine wpList_app el_u8 rfl (.tmp 16) (.tmp 17) rfl (HC.out.own HLl.out (.cells #[.int .u8 0] 5)) rfl (Reads.one_new wo (.int .u8 0) 5) rfl (one_u8 0) (by simp only [maxLen]; omega) (by omega) (HC.out.room _) ?_; intro v3 w3 ho3 hb3 _ _; have H3 := HC.out.push HLl.out ho3 hb3; clear ho3 hb3)
      rw [List.append_assoc, ← List.replicate_succ'] at H3
      have hl3 : (xs ++ [128] ++ List.replicate (z + 1) 0).length = n + 1 + (z + 1) := by simp [hlx.out]; omega
      obtain ⟨g3, cap3, hv3⟩ := H3.form (by omega)
      rw [hl3] at hv3
      subst hv3
      go_roundw
      case rel => exact ⟨z + 1, by omega, H3⟩
      case measure => simp [lenOf]; omega
    · have hb : (((n + 1 + z : Nat) : Int) % 64 != 56) = false := by simp; have := HZ.out; omega
      obtain rfl : z = Z := by omega
      have w8 : IntKind.u64.wrap (n : Int) = n := IntWalk.u64_in _ (by omega)
      have w9 : IntKind.u64.wrap (8 * (n : Int)) = 8 * (n : Int) := IntWalk.u64_in _ (by omega)
      clear hz hzZ
      go_wp2
      clear hb
      generalize ((((n : Nat) : Int) + 1 + (z : Int)) % 64 != 56) = bb
      obtain ⟨L2, hL2⟩ : ∃ L2, L2 = xs ++ [128] ++ List.replicate z 0 := ⟨_, rfl⟩
      rw [← hL2] at HC HLl
      have HL2 := Lib.hid hL2
      clear hL2
      go_loopw [3, 4, 5] (fun v q i wq => ∃ (j : Nat) (y : Int), i = .int .i64 j ∧ j ≤ 8 ∧ q = .int .u64 y ∧ 0 ≤ y ∧ y ≤ 18446744073709551615 ∧ Hid (y = (n : Int) * 8 / 2 ^ (8 * j)) ∧ OwnB w wq v (L2 ++ (lenBytes n).take j)) (fun _ _ i _ => 8 - (intOf i).toNat)
      case atStart => exact ⟨0, _, rfl, by omega, rfl, by omega, by omega, by simp [Hid]; omega, by simpa using HC.out⟩
      case round =>
        clear HC
        obtain ⟨j, y, rfl, hj, rfl, hy0, hy1, hy, hcq⟩ := hrel
        have hLl : (L2 ++ (lenBytes n).take j).length = n + 1 + z + j := by rw [List.length_append, HLl.out, List.length_take, lenBytes_length]; omega
        obtain ⟨g4, cap4, hv⟩ := hcq.form (by omega)
        have HLl2 := Lib.hid hLl
        rw [hLl] at hv
        clear hLl
        subst hv
        have HC := Lib.hid hcq
        clear hcq
        obtain ⟨wo2, rfl⟩ : ∃ wo2 : World, wo2 = wr := ⟨_, rfl⟩
        by_cases hj8 : j < 8
        · have hx8 := lenBytes_at (n := n) hj8
          rw [← hy.out] at hx8
          have HX8 := Lib.hid hx8
          clear hx8
          have hy' : Hid (y / 256 = (n : Int) * 8 / 2 ^ (8 * (j + 1))) := by
            show _ = _
            rw [hy.out, Int.ediv_ediv_of_nonneg (by exact Int.pow_nonneg (by omega))]
            congr 1
            rw [show 8 * (j + 1) = 8 * j + 8 from by omega, Int.pow_add]
            rfl
          go_wp2_with (at_builtin; refine wpList_app el_u8 rfl (.tmp 27) (.tmp 30) rfl (HC.out.own HLl2.out (.cells #[.int .u8 (y % 256)] 5)) rfl (Reads.one_new wo2 (.int .u8 (y % 256)) 5) rfl (one_u8 _) (by simp only [maxLen]; omega) (by omega) (HC.out.room _) ?_; intro v3 w3 ho3 hb3 _ _; have H3 := HC.out.push HLl2.out ho3 hb3; clear ho3 hb3)
          go_roundw
          case rel =>
            have e : (lenBytes n).take (j + 1) = (lenBytes n).take j ++ [y % 256] := by rw [List.take_add_one, HX8.out]; rfl
            rw [List.append_assoc, ← e] at H3
            exact ⟨j + 1, y / 256, by go_num, by omega, rfl, by omega, by omega, hy'.out, H3⟩
          case measure => simp [intOf]; omega
        · obtain rfl : j = 8 := by omega
          have e3 : Hid (L2 ++ (lenBytes n).take 8 = pad xs) := by
            show _ = _
            rw [pad_eq, HL2.out, List.take_of_length_le (by rw [lenBytes_length]; omega), hlx.out, ← HZ.out]
          go_wp2
          go_ret
          exact ⟨_, rfl, by rw [← e3.out]; exact HC.out⟩

/-- What holds ahead of each block in the reference's Of. -/
def RO (w : World) (P : List Int) (sv v : Value) (wq : World) : Prop :=
  ∃ (A'' : Option Addr) (c'' m k2 g cs : Nat) (Q : Q4), sv = .slice (some ⟨g, 0, none⟩) 4 cs ∧ v = .slice A'' m c'' ∧ m + 64 * k2 = P.length ∧ m ≤ c'' ∧ c'' ≤ 9223372036854775807 ∧ Reads wq wq.heap.size 1 A'' m (u8s (P.drop (64 * k2))) ∧
    Q = bl s0 P k2 ∧ Q.ok ∧ Blk wq g 34 (q4l Q).toArray ∧ Below w.heap.size w wq
theorem RO.next {w wq w7 : World} {P : List Int} {m c'' k2 g' : Nat} {A'' : Option Addr} {Q : Q4} (hmT : m + 64 * k2 = P.length) (h64 : 64 ≤ m) (hc2 : m ≤ c'') (hm2 : c'' ≤ 9223372036854775807)
    (hr : Reads wq wq.heap.size 1 A'' m (u8s (P.drop (64 * k2)))) (hQ : Q = bl s0 P k2) (hb : Below w.heap.size w wq) (hb7 : Below wq.heap.size wq w7) (hblk : Blk w7 g' 34 (q4l (blk Q (P.drop (64 * k2)))).toArray) :
    RO w P (.slice (some ⟨g', 0, none⟩) 4 4) (.slice (if c'' = 64 then A'' else A''.map (·.add 64)) (m - 64) (c'' - 64)) w7 := by
  refine ⟨_, _, _, k2 + 1, g', 4, _, rfl, rfl, by omega, by omega, by omega, ?_, by rw [hQ]; rfl, blk_ok _ _, hblk, below_then hb hb7⟩
  have hr2 := (hr.later hb7).u8cut (k := 64) (cap := c'') h64 hc2
  rw [List.drop_drop] at hr2
  have e2 : 64 * k2 + 64 = 64 * (k2 + 1) := by omega
  rw [e2] at hr2
  exact hr2
theorem q4l_nth {w : World} {g : Nat} {t : TypeId} {Q : Q4} (h : Blk w g t (q4l Q).toArray) {i : Nat} (hi : i < 4) : w.cell? ⟨g, i, none⟩ = some (.int .u32 (Q.nth i)) := by
  rw [h.cell]
  have : i = 0 ∨ i = 1 ∨ i = 2 ∨ i = 3 := by omega
  rcases this with rfl | rfl | rfl | rfl <;> rfl
theorem q4l_reads {w : World} {g : Nat} {t : TypeId} {Q : Q4} (h : Blk w g t (q4l Q).toArray) : Reads w w.heap.size 1 (some ⟨g, 0, none⟩) 4 (q4l Q) := by
  have := h.reads (n := 4) (Nat.le_refl _)
  exact this.more h.lt

/-- What holds ahead of each octet that the reference's Of writes out. -/
def ROut (w : World) (g : Nat) (Q : Q4) (v i : Value) (wq : World) : Prop :=
  ∃ j : Nat, i = .int .i64 j ∧ j ≤ 16 ∧ OwnB w wq v ((outOf Q).take j) ∧ Blk wq g 34 (q4l Q).toArray
theorem OwnB.from {w w1 w2 : World} {v : Value} {L : List Int} (h : OwnB w1 w2 v L) (hb : Below w.heap.size w w1) : OwnB w w2 v L :=
  ⟨⟨h.1.1, h.1.2.imp id fun ⟨g, cap, cur, h1, h2, h3⟩ => ⟨g, cap, cur, h1, Nat.le_trans hb.size h2, h3⟩⟩, below_then hb h.2⟩
theorem ROut.next {w w3 : World} {g j : Nat} {Q : Q4} {v3 : Value} {b : Int} (hj : j < 16) (hb : b = Q.nth (j / 4) / 2 ^ (8 * (j % 4)) % 256) (H3 : OwnB w w3 v3 ((outOf Q).take j ++ [b])) (hk : Blk w3 g 34 (q4l Q).toArray) :
    ROut w g Q v3 (.int .i64 ((j + 1 : Nat) : Int)) w3 := by
  refine ⟨j + 1, rfl, by omega, ?_, hk⟩
  have e : (outOf Q).take (j + 1) = (outOf Q).take j ++ [b] := by rw [List.take_add_one, outOf_at hj, hb]; rfl
  rw [e]; exact H3

set_option maxRecDepth 100000 in
set_option maxHeartbeats 1000000 in
/-- The reference's digest: a new list of sixteen octets. -/
theorem refOf_any (A : Option Addr) (n c : Nat) (xs : List Int) (w : World) (hx : Reads w w.heap.size 1 A n (u8s xs)) (ho : Oct xs) (hn : n ≤ 1099511627776) :
    Calls Try.prog 113 #[.slice A n c] w fun e w' => ∃ v, e = .returned v ∧ OwnB w w' v (md xs) := by
  have hlx := Lib.hid hx.u8len
  have hs0 := Blk.new w 34 (q4l s0).toArray
  have hx1 := hx.alloc (Nat.le_refl _) (.cells (q4l s0).toArray 34)
  go_enter Try.func113, Try.ntmps113
  go_wp2_with fail
  refine (refPadded_any A n c xs _ (hx1.more (by rw [World.size_alloc]; omega)) hn).mono ?_
  rintro e w1 ⟨v1, rfl, hp⟩
  have hPl := pad_length xs
  obtain ⟨g1, c1, hv1⟩ := hp.form (by omega)
  subst hv1
  have hrow := row_of_own hp.1
  have hr1 := hp.reads rfl
  have hb1 := hp.2
  obtain ⟨P, hP⟩ : ∃ P, P = pad xs := ⟨_, rfl⟩
  have hPo : Oct P := by rw [hP]; exact pad_oct ho
  have hP64 : Hid (P.length % 64 = 0) := by rw [hP]; show _ = _; omega
  have hPm : P.length ≤ 1099511628000 := by rw [hP, hPl, hlx.out]; omega
  have HMD : Hid (md xs = outOf (bl s0 P (P.length / 64))) := by rw [hP]; rfl
  rw [← hP] at hr1 hrow ⊢
  obtain ⟨_, _, hcap1, hcap2⟩ := hrow
  have hro : RO w P (.slice (some ⟨w.heap.size, 0, none⟩) 4 4) (.slice (some ⟨g1, 0, none⟩) P.length c1) w1 :=
    ⟨_, _, _, 0, w.heap.size, 4, s0, rfl, rfl, by omega, hcap1, hcap2, by simpa using hr1, rfl, s0_ok, hs0.later hb1, (Below.refl _ _).trans (((Below.refl _ _).alloc (Nat.le_refl _) _).trans (hb1.mono (by rw [World.size_alloc]; omega)))⟩
  clear hp hP hPl hr1 hb1 hx1 hs0 hcap1 hcap2 hx
  go_wp2
  go_loopw [3, 4] (fun sv v wq => RO w P sv v wq) (fun _ v _ => lenOf v)
  case atStart => exact hro
  case round =>
    clear hro
    obtain ⟨A'', c'', m, k2, g, cs, Q, rfl, rfl, hmT, hc2, hm2, hr, hQ, hQo, hblk, hb⟩ := hrel
    replace hmT := Lib.hid hmT
    replace hQ := Lib.hid hQ
    by_cases h64 : 64 ≤ m
    · have hpo := hPo.drop (64 * k2)
      by_cases hc64 : c'' = 64
      · subst hc64
        obtain rfl : m = 64 := by omega
        go_wp2_with (go_at_call 122; refine (refBlock_any _ _ _ _ _ _ Q _ (q4l_reads hblk) hr hpo h64 (by omega) hQo).mono ?_; rintro e w7 ⟨g7, rfl, hk7, _, hb7⟩)
        go_roundw
        case rel => exact RO.next hmT.out h64 hc2 hm2 hr hQ.out hb hb7 hk7
        case measure => simp [lenOf]
      · go_wp2_with (go_at_call 122; refine (refBlock_any _ _ _ _ _ _ Q _ (q4l_reads hblk) hr hpo h64 (by omega) hQo).mono ?_; rintro e w7 ⟨g7, rfl, hk7, _, hb7⟩)
        go_roundw
        case rel =>
          have hnext := RO.next hmT.out h64 hc2 hm2 hr hQ.out hb hb7 hk7
          rw [if_neg hc64] at hnext
          exact hnext
        case measure => simp [lenOf]; omega
    · obtain rfl : m = 0 := by have := hmT.out; have := hP64.out; omega
      have HQ : Hid (md xs = outOf Q) := by
        show _ = _
        rw [HMD.out, hQ.out, ← hmT.out, Nat.zero_add, Nat.mul_div_cancel_left _ (by omega)]
      clear hQ hr
      go_wp2
      obtain ⟨wb, hwb⟩ : ∃ wb : World, wb = wr := ⟨_, rfl⟩
      have hRO : ROut wb g Q (.slice none 0 0) (.int .i64 (0 : Nat)) wr := ⟨0, rfl, by omega, by rw [hwb]; exact OwnB.nil _, hblk⟩
      have hbw : Below w.heap.size w wb := by rw [hwb]; exact hb
      have HGB : Hid (g < wb.heap.size) := by rw [hwb]; exact hblk.lt
      clear hwb hblk hb
      have Hbw := Lib.hid hbw
      clear hbw
      go_loopw [5, 6] (fun v i wq => ROut wb g Q v i wq) (fun _ i _ => (16 - intOf i).toNat)
      case atStart => exact hRO
      case round =>
        clear hRO
        obtain ⟨j, rfl, hj, hcq, hblk⟩ := hrel
        have hLl : ((outOf Q).take j).length = j := by rw [List.length_take, outOf_length]; omega
        have HLl := Lib.hid hLl
        obtain ⟨A5, c5, hv⟩ := hcq.shape
        rw [hLl] at hv
        clear hLl
        subst hv
        have HC := Lib.hid hcq
        clear hcq
        have HK := Lib.hid hblk
        clear hblk
        obtain ⟨wo2, rfl⟩ : ∃ wo2 : World, wo2 = wr := ⟨_, rfl⟩
        by_cases hj16 : j < 16
        · have hcs := q4l_nth HK.out (i := j / 4) (by omega)
          have hx : Hid (∃ x, x = Q.nth (j / 4)) := ⟨_, rfl⟩
          obtain ⟨x, hx⟩ := hx.out
          rw [← hx] at hcs
          have hrange := nth_ok hQo (j / 4)
          rw [← hx] at hrange
          have HX := Lib.hid hx
          clear hx
          obtain ⟨hx0, hx1⟩ := hrange
          go_wp2_with (at_builtin; refine wpList_app el_u8 rfl (.tmp 22) (.tmp 33) rfl (HC.out.own HLl.out (.cells #[.int .u8 (x / 2 ^ (8 * (j % 4)) % 256)] 5)) rfl (Reads.one_new wo2 (.int .u8 (x / 2 ^ (8 * (j % 4)) % 256)) 5) rfl (one_u8 _) (by simp only [maxLen]; omega) (by omega) (HC.out.room _) ?_; intro v3 w3 ho3 hb3 _ _; have H3 := Lib.hid (HC.out.push HLl.out ho3 hb3); have HK3 := Lib.hid ((HK.out.alloc _).below hb3 HGB.out); clear ho3 hb3)
          go_roundw
          case rel => exact ROut.next hj16 (by rw [HX.out]) H3.out HK3.out
          case measure => simp [intOf]; omega
        · obtain rfl : j = 16 := by omega
          have e3 : Hid ((outOf Q).take 16 = md xs) := by
            show _ = _
            rw [List.take_of_length_le (by rw [outOf_length]; omega), HQ.out]
          go_wp2
          go_ret
          exact ⟨_, rfl, by rw [← e3.out]; exact HC.out.from Hbw.out⟩
end Go.Proofs.Ytkgdeneonobibaa
