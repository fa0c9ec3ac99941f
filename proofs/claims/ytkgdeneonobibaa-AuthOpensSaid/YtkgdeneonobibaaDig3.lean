/-
  digest.Of, walked.
-/
import Derived.Test.YtkgdeneonobibaaDig2
import Derived.Test.YtkgdeneonobibaaDigMath2
namespace Go.Proofs.Ytkgdeneonobibaa
set_option linter.unusedVariables false
open Go.RowKit

theorem i27 : (Try.prog.info? 122).map (·.size) = some 16 := by kernel_rfl

theorem q4_nth {w : World} {g : Nat} {t : TypeId} {Q : Q4} (h : Blk w g t (q4 Q)) {i : Nat} (hi : i < 4) : w.cell? ⟨g, i, none⟩ = some (.int .u32 (Q.nth i)) := by
  rw [h.cell]
  have : i = 0 ∨ i = 1 ∨ i = 2 ∨ i = 3 := by omega
  rcases this with rfl | rfl | rfl | rfl <;> rfl
def z16 : Array Value := Array.replicate 16 (.int .u8 0)
/-- What is being padded: the row, the state, the room for the answer. -/
def Cur (w0 w : World) (Q : Q4) (v : Value) (L : List Int) : Prop :=
  (∃ g cap, v = .slice (some ⟨g, 0, none⟩) L.length cap) ∧ w.ownsRow (w0.heap.size + 2) 5 1 v L.length (u8s L) ∧ Blk w w0.heap.size 122 z16 ∧ Blk w (w0.heap.size + 1) 169 (q4 Q) ∧ Below w0.heap.size w0 w ∧ w0.heap.size + 2 ≤ w.heap.size
theorem Cur.mk' {w0 w : World} {Q : Q4} {v : Value} {L : List Int} {n : Nat} (hn : L.length = n) (h0 : 0 < n) (ho : w.ownsRow (w0.heap.size + 2) 5 1 v n (u8s L)) (h1 : Blk w w0.heap.size 122 z16) (h2 : Blk w (w0.heap.size + 1) 169 (q4 Q)) (hb : Below w0.heap.size w0 w)
    (hs : w0.heap.size + 2 ≤ w.heap.size) : Cur w0 w Q v L := by
  subst hn
  obtain ⟨g, cap, hv, _⟩ := ho.form h0
  exact ⟨⟨g, cap, hv⟩, ho, h1, h2, hb, hs⟩
theorem Cur.pre {w0 w : World} {Q : Q4} {v : Value} {L : List Int} (h : Cur w0 w Q v L) (o : Obj) : (w.alloc o).ownsRow (w0.heap.size + 2) 5 1 v L.length (u8s L) ∧ w0.heap.size + 2 ≤ (w.alloc o).heap.size :=
  ⟨h.2.1.alloc o, by rw [World.size_alloc]; have := h.2.2.2.2.2; omega⟩
theorem Cur.push {w0 w w2 : World} {Q : Q4} {v v2 : Value} {L : List Int} {b : Int} {o : Obj} (h : Cur w0 w Q v L) (ho : w2.ownsRow (w0.heap.size + 2) 5 1 v2 (L.length + 1) (u8s L ++ [.int .u8 b])) (hb : Below (w0.heap.size + 2) (w.alloc o) w2) : Cur w0 w2 Q v2 (L ++ [b]) := by
  have hs := hb.size
  rw [World.size_alloc] at hs
  have hw := h.2.2.2.2.2
  refine Cur.mk' (n := L.length + 1) (by simp) (by omega) ?_ ((h.2.2.1.alloc o).below hb (by omega)) ((h.2.2.2.1.alloc o).below hb (by omega)) ((h.2.2.2.2.1.alloc h.2.2.2.2.1.size o).trans (hb.mono (by omega))) (by omega)
  rw [u8s_append]
  exact ho
theorem one_ok (b : Int) : ∀ u ∈ [Value.int .u8 b], u.oneCell' = true := by intro u hu; simp at hu; subst hu; rfl

/-- What holds ahead of each block of the padded bytes' end. -/
def L4 (w : World) (xs L3 : List Int) (g4 cap4 T : Nat) (v : Value) (wq : World) : Prop :=
  ∃ (A'' : Option Addr) (c'' m4 k2 : Nat) (Q2 : Q4), v = .slice A'' m4 c'' ∧ m4 + 64 * k2 = T ∧ m4 ≤ c'' ∧ c'' ≤ 9223372036854775807 ∧
    (∀ W, Row W g4 5 cap4 (u8s L3) → Reads W W.heap.size 1 A'' m4 (u8s ((pad xs).drop (64 * k2)))) ∧ Q2 = bl s0 (pad xs) k2 ∧ Q2.ok ∧
    Row wq g4 5 cap4 (u8s L3) ∧ Blk wq w.heap.size 122 z16 ∧ Blk wq (w.heap.size + 1) 169 (q4 Q2) ∧ Below w.heap.size w wq
theorem L4.next {w w7 : World} {xs L3 : List Int} {g4 cap4 T m4 c'' k2 : Nat} {A'' : Option Addr} {Q2 : Q4} (hmT : m4 + 64 * k2 = T) (h64 : 64 ≤ m4) (hc2 : m4 ≤ c'') (hm2 : c'' ≤ 9223372036854775807)
    (hR4 : ∀ W, Row W g4 5 cap4 (u8s L3) → Reads W W.heap.size 1 A'' m4 (u8s ((pad xs).drop (64 * k2)))) (hQ2 : Q2 = bl s0 (pad xs) k2) (hg : w.heap.size + 2 ≤ g4)
    (hrow : Row w7 g4 5 cap4 (u8s L3)) (h0 : Blk w7 w.heap.size 122 z16) (h1 : Blk w7 (w.heap.size + 1) 169 (q4 Q2)) (hb : Below w.heap.size w w7) :
    L4 w xs L3 g4 cap4 T (.slice (if c'' = 64 then A'' else A''.map (·.add 64)) (m4 - 64) (c'' - 64)) (w7.setRow (w.heap.size + 1) (q4 (blk Q2 ((pad xs).drop (64 * k2))))) := by
  refine ⟨_, _, _, k2 + 1, _, rfl, by omega, by omega, by omega, fun W hW => ?_, bl_next hQ2, blk_ok _ _, hrow.setRow_far (by omega) _, h0.setRow_far (by omega) _, h1.setRow _, below_setRow hb (by omega) _⟩
  have hr2 := (hR4 W hW).u8cut (k := 64) (cap := c'') h64 hc2
  rw [List.drop_drop] at hr2
  have e2 : 64 * k2 + 64 = 64 * (k2 + 1) := by omega
  rw [e2] at hr2
  exact hr2

set_option maxRecDepth 100000 in
set_option maxHeartbeats 2000000 in
theorem of_any (A : Option Addr) (n c : Nat) (xs : List Int) (w : World) (hx : Reads w w.heap.size 1 A n (u8s xs)) (ho : Oct xs) (hc : n ≤ c) (hm : c ≤ 9223372036854775807) (hn : n ≤ 1099511627776) :
    Calls Try.prog 104 #[.slice A n c] w fun e w' => e = .returned (.agg (u8s (md xs)).toArray) ∧ Below w.heap.size w w' := by
  have hlx := Lib.hid hx.u8len
  go_enter Try.func104, Try.ntmps104
  have l33 := fun (W : World) (g : Nat) (Q : Q4) (h : Blk W g 169 (q4 Q)) => h
  go_wp2_with (refine wpList_store_row rfl 169 _ _ rfl (w.heap.size + 1) (q4 s0) rfl rfl 169 _ (heap_alloc_new _ _) i33 rfl (q4_one _) ?_; rw [World.setRow_alloc_new])
  go_loopw [4] (fun r wr => ∃ (A' : Option Addr) (c' k : Nat) (Q : Q4), r = .slice A' (n - 64 * k) c' ∧ 64 * k ≤ n ∧ n - 64 * k ≤ c' ∧ c' ≤ 9223372036854775807 ∧ Reads wr w.heap.size 1 A' (n - 64 * k) (u8s (xs.drop (64 * k))) ∧ Hid (Q = bl s0 (pad xs) k) ∧ Hid Q.ok ∧
      Blk wr w.heap.size 122 (Array.replicate 16 (.int .u8 0)) ∧ Blk wr (w.heap.size + 1) 169 (q4 Q) ∧ Below w.heap.size w wr) (fun r _ => lenOf r)
  case atStart =>
    refine ⟨A, c, 0, s0, rfl, by omega, hc, hm, by simpa using (hx.alloc (Nat.le_refl _) _).alloc (by simp) _, rfl, s0_ok, ?_, ?_, ?_⟩
    · exact (Blk.new w _ _).alloc _
    · have := Blk.new (w.alloc (.cells (Array.replicate 16 (.int .u8 0)) 122)) 169 (q4 s0)
      rw [World.size_alloc] at this
      exact this
    · exact ((Below.refl _ _).alloc (Nat.le_refl _) _).alloc (by simp) _
  case round =>
    obtain ⟨A', c', k, Q, rfl, hk, hc', hm', hr, hQ, hQo, h0, h1, hb⟩ := hrel
    by_cases h64 : 64 ≤ n - 64 * k
    · go_wp2_with (first
        | (refine wpList_load_row rfl 169 _ rfl (w.heap.size + 1) rfl 169 (q4 Q) (0, 0) _ h1 Try.underlying169 rfl i33 ?_)
        | (go_at_call 118; refine (block_any _ _ _ _ Q _ (hr.more hb.size) (ho.drop _) h64 (by omega) hQo.out).mono ?_; rintro e w1 ⟨rfl, hb1⟩; have h1' := h1.later hb1)
        | (refine wpList_store_row rfl 169 _ _ rfl (w.heap.size + 1) (q4 (blk Q (xs.drop (64 * k)))) rfl rfl 169 _ h1' i33 rfl (q4_one _) ?_))
      go_roundw
      case rel =>
        have hb2 := below_setRow (below_then hb hb1) (g := w.heap.size + 1) (by omega) (q4 (blk Q (xs.drop (64 * k))))
        have e1 : n - 64 * k - 64 = n - 64 * (k + 1) := by omega
        have hcut := (hx.below hb2)
        have hr2 := ((hr.below ((hb1.mono hb.size))).only (g := w.heap.size + 1) (w' := w1.setRow (w.heap.size + 1) (q4 (blk Q (xs.drop (64 * k))))) (Nat.le_trans hb.size hb1.size) (fun ad had => by
          obtain ⟨ad', e, hlt, _⟩ := hr.2 (by omega)
          rw [had] at e
          injection e with e
          subst e
          omega) (only_setRow _ _ _)).u8cut (k := 64) (cap := c') h64 hc'
        rw [List.drop_drop, e1] at hr2
        have e2 : 64 * k + 64 = 64 * (k + 1) := by omega
        rw [e2] at hr2
        exact ⟨_, c' - 64, k + 1, blk Q (xs.drop (64 * k)), by rw [e1]; rfl, by omega, by omega, by omega, hr2, bl_step hQ.out (by rw [hlx.out]; omega), blk_ok _ _, (h0.later hb1).setRow_far (by omega) _, h1'.setRow _, hb2⟩
      case measure => simp [lenOf]; omega
    · have hlt : n - 64 * k < 64 := by omega
      have hmk := fun W => run_makeN (P := Try.prog) Try.underlying32 info_u8 rfl .i64 .i64 0 128 (by omega) (by omega) (by omega) W
      simp only [Int.natCast_zero, show ((128 : Nat) : Int) = 128 from rfl] at hmk
      have hB2 : w.heap.size + 2 ≤ wr.heap.size := by have := h1.lt; omega
      have hown0 := World.ownsRow_made (base := w.heap.size + 2) (e := 5) (size := 1) wr (madeCells #[.int .u8 0] 128) 128 hB2 (by simp only [maxLen]; omega) (by rw [madeCells_size])
      have hr0 := (hr.more hb.size).alloc (Nat.le_refl _) (.cells (madeCells #[.int .u8 0] 128) 5)
      have hK0 := hb.alloc hb.size (.cells (madeCells #[.int .u8 0] 128) 5)
      have m0 := h0.alloc (.cells (madeCells #[.int .u8 0] 128) 5)
      have m1 := h1.alloc (.cells (madeCells #[.int .u8 0] 128) 5)
      have hsz0 : w.heap.size + 2 ≤ (wr.alloc (.cells (madeCells #[.int .u8 0] 128) 5)).heap.size := by rw [World.size_alloc]; omega
      have HO := Lib.hid (And.intro hown0 (And.intro hr0 (And.intro hK0 (And.intro m0 (And.intro m1 hsz0)))))
      clear hown0 hr0 hK0 m0 m1 hsz0 h0 h1 hr hb
      obtain ⟨R, hR⟩ : ∃ R, R = xs.drop (64 * k) := ⟨_, rfl⟩
      have hRl : R.length = n - 64 * k := by rw [hR, List.length_drop, hlx.out]
      rw [← hR] at HO
      go_wp2_with (first
        | (at_builtin; refine wpList_app el_u8 rfl (.tmp 20) (.tmp 21) rfl HO.out.1 rfl HO.out.2.1 rfl u8s_one (by simp only [maxLen]; omega) (by omega) HO.out.2.2.2.2.2 ?_; intro v1 w1 hown1 hbw1 hg1 hat1; rw [List.nil_append, Nat.zero_add] at hown1; have hs1 := hbw1.size; have HO1 := Lib.hid (And.intro (hown1.alloc (.cells #[.int .u8 128] 5)) (And.intro ((HO.out.2.2.2.1.below hbw1 (by omega)).alloc (.cells #[.int .u8 128] 5)) (And.intro ((HO.out.2.2.2.2.1.below hbw1 (by omega)).alloc (.cells #[.int .u8 128] 5)) (And.intro (((HO.out.2.2.1.trans (hbw1.mono (by omega)))).alloc (by have := HO.out.2.2.2.2.2; omega) (.cells #[.int .u8 128] 5)) (show w.heap.size + 2 ≤ (w1.alloc (.cells #[.int .u8 128] 5)).heap.size by rw [World.size_alloc]; have := HO.out.2.2.2.2.2; omega))))); clear hown1 hbw1 hg1 hat1)
        | (at_builtin; refine wpList_app el_u8 rfl (.tmp 22) (.tmp 23) rfl HO1.out.1 rfl (Reads.one_new w1 (.int .u8 128) 5) rfl (by intro u hu; simp at hu; subst hu; rfl) (by simp only [maxLen]; omega) (by omega) HO1.out.2.2.2.2 ?_; intro v2 w2 hown2 hbw2 hg2 hat2))
      have hcur : Cur w w2 Q v2 (R ++ [128]) := Cur.mk' (n := n - 64 * k + 1) (by simp [hRl]) (by omega) (by rw [u8s_append]; exact hown2) (HO1.out.2.1.below hbw2 (by omega)) (HO1.out.2.2.1.below hbw2 (by omega)) (HO1.out.2.2.2.1.trans (hbw2.mono (by omega))) (by have := HO1.out.2.2.2.2; have := hbw2.size; omega)
      clear HO HO1 hown2 hbw2 hg2 hat2 hs1
      have HR := Lib.hid hR
      have HRl := Lib.hid hRl
      clear hR hRl
      obtain ⟨Z, hZ⟩ : ∃ Z, Z = (119 - n % 64) % 64 := ⟨_, rfl⟩
      have hZb : Z ≤ 63 := by omega
      have HZ := Lib.hid hZ
      clear hZ
      go_loopw [5] (fun v wq => ∃ z : Nat, z ≤ Z ∧ Cur w wq Q v (R ++ [128] ++ List.replicate z 0)) (fun v _ => 200 - lenOf v)
      case atStart => exact ⟨0, by omega, by simpa using hcur⟩
      case round =>
        obtain ⟨z, hz, hcq⟩ := hrel
        obtain ⟨⟨g, cap, hv⟩, _⟩ := id hcq
        have hLl : (R ++ [128] ++ List.replicate z 0).length = n - 64 * k + 1 + z := by simp [HRl.out]; omega
        have HLl := Lib.hid hLl
        rw [hLl] at hv
        clear hLl
        subst hv
        obtain ⟨wo, rfl⟩ : ∃ wo : World, wo = wr := ⟨_, rfl⟩
        by_cases hzZ : z < Z
        · have hb : (((n - 64 * k + 1 + z : Nat) : Int) % 64 != 56) = true := by simp; have := HZ.out; omega
          have HC := Lib.hid hcq
          clear hcq hcur
          go_wp2_with (at_builtin; refine wpList_app el_u8 rfl (.tmp 29) (.tmp 30) rfl (by have := (HC.out.pre (.cells #[.int .u8 0] 5)).1; rw [HLl.out] at this; exact this) rfl (Reads.one_new _ (.int .u8 0) 5) rfl (one_ok 0) (by simp only [maxLen]; omega) (by omega) (HC.out.pre _).2 ?_; intro v3 w3 hown3 hbw3 hg3 hat3)
          have hp : Cur w w3 Q v3 (R ++ [128] ++ List.replicate (z + 1) 0) := by
            rw [List.replicate_succ', ← List.append_assoc]
            exact HC.out.push (by rw [HLl.out]; exact hown3) hbw3
          obtain ⟨⟨g3, cap3, hv3⟩, _⟩ := id hp
          rw [List.length_append, List.length_append, HRl.out, List.length_replicate] at hv3
          subst hv3
          clear hown3 hbw3 hg3 hat3
          go_roundw
          case rel => exact ⟨z + 1, by omega, hp⟩
          case measure => simp [lenOf]; omega
        · have hb : (((n - 64 * k + 1 + z : Nat) : Int) % 64 != 56) = false := by simp; have := HZ.out; omega
          obtain rfl : z = Z := by omega
          have HC := Lib.hid hcq
          clear hcq hcur hz hzZ
          have w8 : IntKind.u64.wrap (n : Int) = n := IntWalk.u64_in _ (by omega)
          have w9 : IntKind.u64.wrap ((n : Int) * 8) = (n : Int) * 8 := IntWalk.u64_in _ (by omega)
          go_wp2
          obtain ⟨L2, hL2⟩ : ∃ L2, L2 = R ++ [128] ++ List.replicate z 0 := ⟨_, rfl⟩
          rw [← hL2] at HC HLl
          clear hb
          generalize ((((n - 64 * k : Nat) : Int) + 1 + (z : Int)) % 64 != 56) = bb
          go_loopw [5, 36] (fun v i wq => ∃ j : Nat, i = .int .i64 j ∧ j ≤ 8 ∧ Cur w wq Q v (L2 ++ (lenBytes n).take j)) (fun _ i _ => 8 - (intOf i).toNat)
          case atStart => exact ⟨0, rfl, by omega, by simpa using HC.out⟩
          case round =>
            clear HC
            obtain ⟨j, rfl, hj, hcq⟩ := hrel
            obtain ⟨⟨g4, cap4, hv⟩, _⟩ := id hcq
            have hLl : (L2 ++ (lenBytes n).take j).length = n - 64 * k + 1 + z + j := by simp [HLl.out, lenBytes_length]; omega
            have HLl2 := Lib.hid hLl
            rw [hLl] at hv
            clear hLl
            subst hv
            obtain ⟨wo2, rfl⟩ : ∃ wo2 : World, wo2 = wr := ⟨_, rfl⟩
            by_cases hj8 : j < 8
            · have hx8 := Lib.hid (lenBytes_at (n := n) hj8)
              have HC := Lib.hid hcq
              clear hcq
              go_wp2_with (at_builtin; refine wpList_app el_u8 rfl (.tmp 39) (.tmp 45) rfl (by have := (HC.out.pre (.cells #[.int .u8 (((n : Int) * 8) / 2 ^ (8 * j) % 256)] 5)).1; rw [HLl2.out] at this; exact this) rfl (Reads.one_new _ (.int .u8 (((n : Int) * 8) / 2 ^ (8 * j) % 256)) 5) rfl (one_ok _) (by simp only [maxLen]; omega) (by omega) (HC.out.pre _).2 ?_; intro v3 w3 hown3 hbw3 hg3 hat3)
              have hp : Cur w w3 Q v3 (L2 ++ (lenBytes n).take (j + 1)) := by
                have e : (lenBytes n).take (j + 1) = (lenBytes n).take j ++ [((n : Int) * 8) / 2 ^ (8 * j) % 256] := by rw [List.take_add_one, hx8.out]; rfl
                rw [e, ← List.append_assoc]
                exact HC.out.push (by rw [HLl2.out]; exact hown3) hbw3
              clear hown3 hbw3 hg3 hat3
              go_roundw
              case rel => exact ⟨j + 1, by go_num, by omega, hp⟩
              case measure => simp [intOf]; omega
            · obtain rfl : j = 8 := by omega
              obtain ⟨L3, hL3⟩ : ∃ L3, L3 = (pad xs).drop (64 * k) := ⟨_, rfl⟩
              have e3 : L2 ++ (lenBytes n).take 8 = L3 := by
                rw [hL3, pad_drop (by rw [hlx.out]; exact hk), hlx.out, ← HZ.out, ← HR.out, hL2, List.take_of_length_le (by rw [lenBytes_length]; omega)]
              rw [e3] at hcq HLl2
              obtain ⟨T, hT⟩ : ∃ T, T = n + 9 + z := ⟨_, rfl⟩
              have hpl : (pad xs).length = T := by rw [pad_length, hlx.out, hT, ← HZ.out]
              have hT64 : T % 64 = 0 := by have := HZ.out; omega
              have eT : n - 64 * k + 1 + z + 8 = T - 64 * k := by omega
              have hkT : 64 * k ≤ T := by omega
              have hrow := row_of_own (by have := hcq.2.1; rw [HLl2.out] at this; exact this)
              obtain ⟨hrow, hg4, hcap1, hcap2⟩ := hrow
              have hR3 : Hid (∀ W, Row W g4 5 cap4 (u8s L3) → Reads W W.heap.size 1 (some ⟨g4, 0, none⟩) (T - 64 * k) (u8s ((pad xs).drop (64 * k)))) := fun W h => by
                rw [← hL3]
                exact h.u8reads (by rw [HLl2.out, eT])
              have HP := Lib.hid hpl
              obtain ⟨_, _, hq0, hq1, hqb, hqs⟩ := hcq
              clear e3 hpl hL2 hL3
              rw [eT]
              rw [eT] at hcap1
              clear eT
              have HT64 := Lib.hid hT64
              have hTle : T ≤ 1099511628000 := by omega
              clear hT hT64
              go_wp2
              obtain ⟨wp, rfl⟩ : ∃ wp : World, wp = wo2 := ⟨_, rfl⟩
              rw [show (((8 : Nat) : Int)) = 8 from rfl]
              go_loopw [5] (fun v wq => L4 w xs L3 g4 cap4 T v wq) (fun v _ => lenOf v)
              case atStart => exact ⟨_, _, _, k, Q, rfl, by omega, hcap1, hcap2, hR3.out, hQ.out, hQo.out, hrow, hq0, hq1, hqb⟩
              case round =>
                clear hQ hQo hrow hq0 hq1 hqb hR3 hcap1 hcap2 hkT
                obtain ⟨A'', c'', m4, k2, Q2, rfl, hmT, hc2, hm2, hR4, hQ2, hQ2o, hrow, h0, h1, hb⟩ := hrel
                replace hmT := Lib.hid hmT
                replace hQ2 := Lib.hid hQ2
                replace hR4 := Lib.hid hR4
                replace hQ2o := Lib.hid hQ2o
                by_cases h64' : 64 ≤ m4
                · have hpo := (pad_oct ho).drop (64 * k2)
                  by_cases hc64 : c'' = 64
                  · subst hc64
                    obtain rfl : m4 = 64 := by omega
                    go_wp2_with (first
                      | (refine wpList_load_row rfl 169 _ rfl (w.heap.size + 1) rfl 169 (q4 Q2) (0, 0) _ h1 Try.underlying169 rfl i33 ?_)
                      | (go_at_call 118; refine (block_any _ _ _ _ Q2 _ (hR4.out _ hrow) hpo (by omega) (by omega) hQ2o.out).mono ?_; rintro e w7 ⟨rfl, hb7⟩; have h1' := h1.later hb7)
                      | (refine wpList_store_row rfl 169 _ _ rfl (w.heap.size + 1) (q4 (blk Q2 ((pad xs).drop (64 * k2)))) rfl rfl 169 _ h1' i33 rfl (q4_one _) ?_))
                    go_roundw
                    case rel =>
                      have hnext := L4.next (w := w) hmT.out h64' hc2 hm2 hR4.out hQ2.out hg4 (hrow.later hb7) (h0.later hb7) h1' (below_then hb hb7)
                      exact hnext
                    case measure => simp [lenOf]
                  · go_wp2_with (first
                      | (refine wpList_load_row rfl 169 _ rfl (w.heap.size + 1) rfl 169 (q4 Q2) (0, 0) _ h1 Try.underlying169 rfl i33 ?_)
                      | (go_at_call 118; refine (block_any _ _ _ _ Q2 _ (hR4.out _ hrow) hpo (by omega) (by omega) hQ2o.out).mono ?_; rintro e w7 ⟨rfl, hb7⟩; have h1' := h1.later hb7)
                      | (refine wpList_store_row rfl 169 _ _ rfl (w.heap.size + 1) (q4 (blk Q2 ((pad xs).drop (64 * k2)))) rfl rfl 169 _ h1' i33 rfl (q4_one _) ?_))
                    go_roundw
                    case rel =>
                      have hnext := L4.next (w := w) hmT.out h64' hc2 hm2 hR4.out hQ2.out hg4 (hrow.later hb7) (h0.later hb7) h1' (below_then hb hb7)
                      rw [if_neg hc64] at hnext
                      exact hnext
                    case measure => simp [lenOf]; omega
                · obtain rfl : m4 = 0 := by have := hmT.out; have := HT64.out; omega
                  have hMd : Hid (md xs = outOf Q2) := by
                    show _ = _
                    unfold md
                    rw [HP.out, hQ2.out, ← hmT.out, Nat.zero_add, Nat.mul_div_cancel_left _ (by omega)]
                  obtain ⟨wo3, rfl⟩ : ∃ wo3 : World, wo3 = wr := ⟨_, rfl⟩
                  have K0 : Hid (Blk (wo3.alloc (.cells z16 122)) w.heap.size 122 z16 ∧ Blk (wo3.alloc (.cells z16 122)) (w.heap.size + 1) 169 (q4 Q2) ∧ Below w.heap.size w (wo3.alloc (.cells z16 122)) ∧ Blk (wo3.alloc (.cells z16 122)) wo3.heap.size 122 z16 ∧ w.heap.size + 1 < wo3.heap.size) :=
                    ⟨h0.alloc _, h1.alloc _, hb.alloc hb.size _, Blk.new _ _ _, h1.lt⟩
                  have hQn := Lib.hid (fun i => nth_ok hQ2o.out i)
                  clear hrow h0 h1 hb hR4 hQ2 hc2 hm2
                  go_wp2
                  have hol : (u8s (outOf Q2)).length = 16 := by rw [u8s_length, outOf_length]
                  have HOL := Lib.hid hol
                  clear hol
                  have hgo : w.heap.size + 1 < wo3.heap.size := K0.out.2.2.2.2
                  go_loopw [56] (fun i wq => ∃ j : Nat, i = .int .i64 j ∧ j ≤ 16 ∧ Blk wq w.heap.size 122 z16 ∧ Blk wq (w.heap.size + 1) 169 (q4 Q2) ∧ Below w.heap.size w wq ∧ Blk wq wo3.heap.size 122 (Fill (.int .u8 0) (u8s (outOf Q2)) j)) (fun i _ => 16 - (intOf i).toNat)
                  case atStart => exact ⟨0, rfl, by omega, K0.out.1, K0.out.2.1, K0.out.2.2.1, by rw [Fill.zero, HOL.out]; exact K0.out.2.2.2.1⟩
                  case round =>
                    clear K0
                    obtain ⟨j, rfl, hj, h0, h1, hb, ho16⟩ := hrel
                    by_cases hj16 : j < 16
                    · have hcs := q4_nth h1 (i := j / 4) (by omega)
                      have hxo := Lib.hid (outOf_at (q := Q2) hj16)
                      have hrange := hQn.out (j / 4)
                      generalize Q2.nth (j / 4) = x at *
                      obtain ⟨hx0, hx1⟩ := hrange
                      have hco : wr.cell? ⟨wo3.heap.size, j, none⟩ = some (.int .u8 0) := by rw [ho16.cell, Fill.at_ _ _ (by rw [HOL.out]; exact hj16)]
                      have hfo := ho16.frozen j
                      go_wp2
                      go_roundw
                      case rel =>
                        have e2 := ho16.set_ j (.int .u8 (x / 2 ^ (8 * (j % 4)) % 256))
                        rw [Fill.set _ _ (u8s_get_of hxo.out)] at e2
                        exact ⟨j + 1, by go_num, by omega, h0.far (p := ⟨wo3.heap.size, j, none⟩) (by show _ ≠ wo3.heap.size; omega) _, h1.far (p := ⟨wo3.heap.size, j, none⟩) (by show _ ≠ wo3.heap.size; omega) _, hb.setCell (p := ⟨wo3.heap.size, j, none⟩) (by show _ ≤ wo3.heap.size; omega) _, e2⟩
                      case measure => simp [intOf]; omega
                    · rw [Fill.full _ _ (by rw [HOL.out]; omega)] at ho16
                      have HR16 : Hid ((u8s (outOf Q2)).toArray.size = 16 ∧ (u8s (outOf Q2)).toArray.all (·.oneCell') = true) := ⟨by simp [HOL.out], by simp [u8s, Value.oneCell']⟩
                      go_wp2_with (first
                        | (refine wpList_load_row rfl 122 _ rfl wo3.heap.size rfl 122 (u8s (outOf Q2)).toArray (0, 0) _ ho16 Try.underlying122 rfl (by rw [HR16.out.1]; exact i27) ?_)
                        | (refine wpList_store_row rfl 122 _ _ rfl w.heap.size (u8s (outOf Q2)).toArray rfl rfl 122 _ h0 (by rw [HR16.out.1]; exact i27) (by rw [HR16.out.1]; rfl) HR16.out.2 ?_))
                      refine bodyPost_ret (results_cell_row rfl _ _ w.heap.size 122 (u8s (outOf Q2)).toArray (0, 0) _ rfl (h0.setRow _) Try.underlying122 rfl (by rw [HR16.out.1]; exact i27)) rfl ⟨?_, below_setRow hb (by omega) _⟩
                      rw [hMd.out]
end Go.Proofs.Ytkgdeneonobibaa
