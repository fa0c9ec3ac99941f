/-
  prefix.Parse, walked.
-/
import Derived.Test.YtljmmpjcagchmaaDoorPfxTxt
import Derived.Lib.OthersKept
namespace Go.Proofs.YtljmmpjcagchmaaDoor
set_option linter.unusedVariables false
open Go.RowKit

theorem adP_lt' : ∀ (k : Nat) (l : List UInt8) (acc a : Nat), adP k l acc = some a → a < (acc + 1) * 256 ^ (k + 1) := by
  intro k
  induction k with
  | zero =>
    intro l acc a h
    unfold adP at h
    split at h
    · rename_i h1
      have := okN_lt h1.1
      injection h with h
      omega
    · cases h
  | succ k ih =>
    intro l acc a h
    unfold adP at h
    split at h
    · rename_i h1
      have h2 := okN_lt h1.1
      have h3 := ih _ _ _ h
      have h4 : (acc * 256 + (runN 4 l 0).2 + 1) * 256 ^ (k + 1) ≤ ((acc + 1) * 256) * 256 ^ (k + 1) := Nat.mul_le_mul_right _ (by omega)
      have e : 256 ^ (k + 1 + 1) = 256 * 256 ^ (k + 1) := by rw [Nat.pow_succ]; omega
      rw [Nat.mul_assoc, ← e] at h4
      omega
    · cases h
theorem adP_lt {l : List UInt8} {a : Nat} (h : adP 3 l 0 = some a) : a < 4294967296 := by
  have := adP_lt' 3 l 0 a h
  omega
/-- What Parse answers. -/
def parseP (l : List UInt8) : Pf × Int :=
  match adP 3 (l.take (cutL l)) 0 with
  | none => (⟨0, 0⟩, 13)
  | some a =>
    if cutL l = l.length then (⟨0, 0⟩, 13)
    else match Lib.atoiAll (l.drop (cutL l + 1)) with
      | .ok v => if v < 0 ∨ 32 < v ∨ Lib.decDigits v.toNat ≠ l.drop (cutL l + 1) then (⟨0, 0⟩, 13) else if isP a v.toNat = true then (⟨a, v.toNat⟩, 0) else (⟨0, 0⟩, 12)
      | _ => (⟨0, 0⟩, 13)
theorem parse_none {l : List UInt8} (h : adP 3 (l.take (cutL l)) 0 = none) : parseP l = (⟨0, 0⟩, 13) := by unfold parseP; rw [h]
theorem parse_nocut {l : List UInt8} (h : cutL l = l.length) : parseP l = (⟨0, 0⟩, 13) := by
  unfold parseP
  cases adP 3 (l.take (cutL l)) 0 with
  | none => rfl
  | some a => simp only [h, if_true]
theorem parse_bad {l : List UInt8} (h : ∀ v, Lib.atoiAll (l.drop (cutL l + 1)) = .ok v → v < 0 ∨ 32 < v ∨ Lib.decDigits v.toNat ≠ l.drop (cutL l + 1)) : parseP l = (⟨0, 0⟩, 13) := by
  unfold parseP
  cases adP 3 (l.take (cutL l)) 0 with
  | none => rfl
  | some a =>
    simp only
    split
    · rfl
    · split
      · rename_i v hv
        rw [if_pos (h v hv)]
      · rfl
theorem parse_good {l : List UInt8} {a n : Nat} (h1 : adP 3 (l.take (cutL l)) 0 = some a) (h2 : cutL l ≠ l.length) (h3 : Lib.atoiAll (l.drop (cutL l + 1)) = .ok (n : Int)) (h4 : n ≤ 32) (h5 : Lib.decDigits n = l.drop (cutL l + 1)) :
    parseP l = if isP a n = true then (⟨a, n⟩, 0) else (⟨0, 0⟩, 12) := by
  unfold parseP
  rw [h1]
  simp only
  rw [if_neg h2, h3]
  simp only [Int.toNat_natCast]
  rw [if_neg]
  rintro (h | h | h)
  · omega
  · omega
  · exact h h5
abbrev outP (x : Pf × Int) : Value := .tuple #[x.1.v, .int .i64 x.2]
theorem outP_ok (x : Pf × Int) : outP x = .tuple #[.agg #[.int .u32 x.1.a, .int .u8 x.1.n], .int .i64 x.2] := rfl

theorem iterAt_blk {w : World} {g k : Nat} {t : TypeId} {cs : Array Value} (h : Blk w g t cs) (hne : g ≠ k) (s : ByteArray) (p : Nat) : Blk (w.iterAt k s p) g t cs := by
  unfold Blk at h ⊢
  simp only [World.iterAt, Array.getElem?_setIfInBounds]
  rw [if_neg (by omega)]
  exact h
theorem z2_one : ∀ u ∈ [Value.int .u32 0, Value.int .u8 0], u.oneCell' = true := by intro u hu; simp at hu; rcases hu with rfl | rfl <;> rfl
abbrev zP : Array Value := #[.int .u32 0, .int .u8 0]

theorem res_facts {w : World} {g : Nat} {t : TypeId} {x y : Value} (h : Blk w g t #[x, y]) : w.cell? ⟨g, 0, none⟩ = some x ∧ w.cell? ⟨g, 1, none⟩ = some y ∧ w.frozen? ⟨g, 0, none⟩ = false ∧ w.frozen? ⟨g, 1, none⟩ = false ∧
    (∀ v, (w.setCell ⟨g, 0, none⟩ v).cell? ⟨g, 1, none⟩ = some y) ∧ (∀ v, (w.setCell ⟨g, 0, none⟩ v).frozen? ⟨g, 1, none⟩ = false) :=
  ⟨h.cell 0, h.cell 1, h.frozen 0, h.frozen 1, fun v => (h.set_ 0 v).cell 1, fun v => (h.set_ 0 v).frozen 1⟩
theorem Blk.set2 {w : World} {g : Nat} {t : TypeId} {x y : Value} (h : Blk w g t #[x, y]) (u v : Value) : Blk ((w.setCell ⟨g, 0, none⟩ u).setCell ⟨g, 1, none⟩ v) g t #[u, v] := (h.set_ 0 u).set_ 1 v
theorem data_ext (s : ByteArray) (a b : Nat) : bytesOf (s.extract a b) = ((bytesOf s).drop a).take (b - a) := Lib.extract_data s a b
theorem drop_tail (s : ByteArray) (a : Nat) : ((bytesOf s).drop a).take (s.size - a) = (bytesOf s).drop a := List.take_of_length_le (by rw [List.length_drop, Array.length_toList]; exact Nat.le_refl _)
/-- strconv.Atoi, whatever the text. -/
theorem atoi_any (t : ByteArray) (w : World) (ht : t.size ≤ 1099511627776) (hE : Env w) :
    Calls Tryd.prog 42 #[.string t] w fun e w' => ∃ (n : Int) (ev : Value), e = .returned (.tuple #[.int .i64 n, ev]) ∧ ((Lib.atoiAll (bytesOf t) = .ok n ∧ ev = .nilIface) ∨ ((∀ v, Lib.atoiAll (bytesOf t) ≠ .ok v) ∧ ∃ N : Nat, ev = .iface 75 (.pointer (some ⟨N, 0, none⟩)))) ∧ Below w.heap.size w w' := by
  cases h : Lib.atoiAll (bytesOf t)
  · rename_i v
    refine (Tryd.strconv_Atoi_ok t (by omega) v h w).mono ?_
    rintro e w' ⟨h1, h2⟩
    refine ⟨v, _, h1, .inl ⟨rfl, rfl⟩, ?_⟩
    rcases h2 with rfl | ⟨l, rfl⟩
    · exact Below.refl _ _
    · exact Lib.bytesWorld_below _ _ _
  · obtain ⟨tp, p, hv⟩ := hE.syn
    refine (Any.strconv_Atoi_syntax_var Tryd.laysC172 t (by omega) h tp p w hv).mono ?_
    rintro e w' ⟨N, h1, _, _, hb⟩
    exact ⟨_, _, h1, .inr ⟨by simp, N, rfl⟩, hb⟩
  · obtain ⟨tp, p, hv⟩ := hE.rng
    refine (Tryd.strconv_Atoi_range_var t (by omega) h tp p w hv).mono ?_
    rintro e w' ⟨N, h1, _, _, hb⟩
    exact ⟨_, _, h1, .inr ⟨by simp, N, rfl⟩, hb⟩
structure LRel (w : World) (s : ByteArray) (wr : World) : Prop where
  ex : ∃ pos : Nat, pos ≤ s.size ∧ Hid (∀ i, i < pos → (bytesOf s)[i]? ≠ some 47) ∧ wr.heap[w.heap.size + 1]? = some (.stringIter s pos)
  res : Blk wr w.heap.size 31 zP
  below : Below w.heap.size w wr

set_option maxRecDepth 100000 in
set_option maxHeartbeats 4000000 in
theorem parse_any (w : World) (s : ByteArray) (hm : s.size ≤ 1099511627776) (hE : Env w) :
    Calls Tryd.prog 16 #[.string s] w fun e w' => e = .returned (outP (parseP (bytesOf s))) ∧ Below w.heap.size w w' := by
  have HE := Lib.hid hE
  clear hE
  go_enter Tryd.func16, Tryd.ntmps16
  go_wp2
  go_loopw [4] (fun u wr => u = .int .i64 s.size ∧ LRel w s wr) (fun _ wr => s.size - wr.iterPos (w.heap.size + 1))
  case atStart =>
    refine ⟨rfl, ⟨0, by omega, fun i hi => absurd hi (by omega), ?_⟩, ?_, ?_⟩
    · have := World.iter_heap (w.alloc (.cells zP 31)) s 0
      simpa using this
    · exact (Blk.new w 31 zP).alloc _
    · exact ((Below.refl _ _).alloc (Nat.le_refl _) _).alloc (by rw [World.size_alloc]; omega) _
  case round =>
    obtain ⟨rfl, ⟨pos, hp, hno, hit⟩, hres, hbw⟩ := hrel
    have hsz : w.heap.size + 1 < wr.heap.size := (Array.getElem?_eq_some_iff.1 hit).1
    by_cases hps : pos < s.size
    · have hnx : ∀ ty, (Instr.next (.pointer (some ⟨w.heap.size + 1, 0, none⟩)) true ty).run Tryd.prog wr = _ := fun ty => Lib.run_next_any_at wr (w.heap.size + 1) s pos ty hit hps
      obtain ⟨s1, s2, s3, s4⟩ := skip_rune hps hno.out
      have hit2 := Lib.iterAt_heap wr (w.heap.size + 1) s pos (pos + (Utf8.decode s pos).2) hit
      have hres2 := iterAt_blk hres (by omega) s (pos + (Utf8.decode s pos).2) (k := w.heap.size + 1)
      have hbw2 := Lib.below_iterAt hbw (k := w.heap.size + 1) (by omega) s (pos + (Utf8.decode s pos).2)
      have hmeas : (wr.iterAt (w.heap.size + 1) s (pos + (Utf8.decode s pos).2)).iterPos (w.heap.size + 1) = pos + (Utf8.decode s pos).2 := by simp [World.iterPos, hit2]
      have hmeas0 : wr.iterPos (w.heap.size + 1) = pos := by simp [World.iterPos, hit]
      generalize wr.iterAt (w.heap.size + 1) s (pos + (Utf8.decode s pos).2) = w1 at *
      generalize (Utf8.decode s pos).2 = k at *
      generalize (Utf8.decode s pos).1 = r at *
      by_cases hr : r = 47
      · have hri : ((r : Int) == 47) = true := by simp [hr]
        have hc : cutL (bytesOf s) = pos := cutL_at _ _ hno.out (s3 hr)
        have HR := Lib.hid hres2
        have HB := Lib.hid hbw2
        have HN := Lib.hid hnx
        clear s3 s4 hr hres hbw hres2 hbw2 hit hit2 hmeas hmeas0
        have hlen : (bytesOf s).length = s.size := by rw [Array.length_toList]; rfl
        have e1 : bytesOf (s.extract 0 pos) = (bytesOf s).take (cutL (bytesOf s)) := by rw [data_ext, hc]; simp
        have e2 : bytesOf (s.extract (pos + 1) s.size) = (bytesOf s).drop (cutL (bytesOf s) + 1) := by rw [data_ext, drop_tail, hc]
        have x1 : (s.extract 0 pos).size ≤ 1099511627776 := by rw [ByteArray.size_extract]; omega
        have x2 : (s.extract (pos + 1) s.size).size ≤ 1099511627776 := by rw [ByteArray.size_extract]; omega
        have hcl : cutL (bytesOf s) ≠ (bytesOf s).length := by omega
        have HA := Lib.hid (address_any w1 (s.extract 0 pos) x1)
        rw [e1] at HA
        have hE1 := HE.out.later HB.out
        clear hno hsz s1 s2
        cases had : adP 3 ((bytesOf s).take (cutL (bytesOf s))) 0
        · have hR : Hid (parseP (bytesOf s) = (⟨0, 0⟩, 13)) := parse_none had
          rw [had] at HA
          simp only [outN] at HA
          go_wp2_with fail
          refine HA.out.mono ?_
          rintro e w2 ⟨rfl, hb⟩
          have HR2 := Lib.hid (HR.out.later hb)
          have HB2 := Lib.hid (below_then HB.out hb)
          clear hb HR HB
          obtain ⟨c0, c1, f0, f1, c1', f1'⟩ := res_facts HR2.out
          go_wp2_with fail
          have hz := HR2.out.set2 (.int .u32 0) (.int .u8 0)
          exact bodyPost_ret (results_cell_row_tmp rfl _ _ w.heap.size 31 zP (0, 0) _ rfl hz Tryd.underlying31 rfl infoP) rfl ⟨by rw [hR.out]; rfl, (HB2.out.setCell (p := ⟨w.heap.size, 0, none⟩) (Nat.le_refl _) _).setCell (p := ⟨w.heap.size, 1, none⟩) (Nat.le_refl _) _⟩
        · rename_i a
          have hne : ((pos : Int) == s.size) = false := by simp; omega
          rw [had] at HA
          simp only [outN] at HA
          go_wp2_with fail
          refine HA.out.mono ?_
          rintro e w2 ⟨rfl, hb⟩
          have HR2 := Lib.hid (HR.out.later hb)
          have HB2 := Lib.hid (below_then HB.out hb)
          clear hb HR HB
          have HT := Lib.hid (atoi_any (s.extract (pos + 1) s.size) w2 x2 (HE.out.later HB2.out))
          rw [e2] at HT
          go_wp2_with fail
          refine HT.out.mono ?_
          rintro e w3 ⟨v, ev, rfl, hcase, hb⟩
          have HR3 := Lib.hid (HR2.out.later hb)
          have HB3 := Lib.hid (below_then HB2.out hb)
          clear hb HR2 HB2 HT
          rcases hcase with ⟨hok, rfl⟩ | ⟨hbad, N, rfl⟩
          · by_cases hv0 : v < 0
            · have hR : Hid (parseP (bytesOf s) = (⟨0, 0⟩, 13)) := parse_bad fun v' hv' => by rw [hok] at hv'; injection hv' with hv'; subst hv'; exact .inl hv0
              have HR4 : Hid (Blk w3.drew w.heap.size 31 zP) := HR3.out.drewN 1
              have HB4 : Hid (Below w.heap.size w w3.drew) := HB3.out.drew
              clear HR3 HB3
              go_wp2_with fail
              refine wp_region_w [(0, true), (1, true), (2, true), (3, true), (4, true), (5, true), (6, true), (7, true), (8, true), (9, true), (10, true), (11, true), (13, true), (14, true), (15, true), (16, true), (12, false), (17, true), (18, true)] (by kernel_rfl) (fun _ d _ _ _ h => by cases d <;> exact h) ?_
              simp only [List.map_cons, List.map_nil, nthOp_zero, nthOp_succ]
              generalize w3.drew = w4 at *
              refine wpW_take (by kernel_rfl) (by intro W; go_simp; try with_reducible rfl) ?_
              refine wpW_take (by kernel_rfl) (by intro W; go_simp; try with_reducible rfl) ?_
              refine wpW_take (by kernel_rfl) (by intro W; go_simp; try with_reducible rfl) ?_
              refine wpW_take (by kernel_rfl) (by intro W; go_simp; try with_reducible rfl) ?_
              refine wpW_take (by kernel_rfl) (by intro W; go_simp; try with_reducible rfl) ?_
              refine wpW_take (by kernel_rfl) (by intro W; go_simp; try with_reducible rfl) ?_
              refine wpW_take (by kernel_rfl) (by intro W; go_simp; try with_reducible rfl) ?_
              refine wpW_skip (by kernel_rfl) ?_
              refine wpW_skip (by kernel_rfl) ?_
              refine wpW_take (by kernel_rfl) (by intro W; go_simp; try with_reducible rfl) ?_
              refine wpW_take (by kernel_rfl) (by intro W; go_simp; try with_reducible rfl) ?_
              refine wpW_skip (by kernel_rfl) ?_
              refine wpW_skip (by kernel_rfl) ?_
              refine wpW_skip (by kernel_rfl) ?_
              refine wpW_skip (by kernel_rfl) ?_
              refine wpW_skip (by kernel_rfl) ?_
              try go_simp
              refine wpW_do fun K1 hK1 => ?_
              go_wp2_with fail
              refine hK1.out _ _ ?_
              clear hK1 K1
              refine wpW_skip (by kernel_rfl) ?_
              refine wpW_take (by kernel_rfl) (by intro W; go_simp; try with_reducible rfl) ?_
              refine wpW_nil ?_
              try go_simp
              obtain ⟨c0, c1, f0, f1, c1', f1'⟩ := res_facts HR4.out
              go_wp2
              have hz := HR4.out.set2 (.int .u32 0) (.int .u8 0)
              exact bodyPost_ret (results_cell_row_tmp rfl _ _ w.heap.size 31 zP (0, 0) _ rfl hz Tryd.underlying31 rfl infoP) rfl ⟨by rw [hR.out]; rfl, (HB4.out.setCell (p := ⟨w.heap.size, 0, none⟩) (Nat.le_refl _) _).setCell (p := ⟨w.heap.size, 1, none⟩) (Nat.le_refl _) _⟩
            by_cases hv1 : 32 < v
            · have hR : Hid (parseP (bytesOf s) = (⟨0, 0⟩, 13)) := parse_bad fun v' hv' => by rw [hok] at hv'; injection hv' with hv'; subst hv'; exact .inr (.inl hv1)
              have hv00 : decide (v < 0) = false := decide_eq_false hv0
              have HR4 : Hid (Blk w3.drew w.heap.size 31 zP) := HR3.out.drewN 1
              have HB4 : Hid (Below w.heap.size w w3.drew) := HB3.out.drew
              clear HR3 HB3
              go_wp2_with fail
              refine wp_region_w [(0, true), (1, true), (2, true), (3, true), (4, true), (5, true), (6, true), (7, true), (8, true), (9, true), (10, true), (11, true), (13, true), (14, true), (15, true), (16, true), (12, false), (17, true), (18, true)] (by kernel_rfl) (fun _ d _ _ _ h => by cases d <;> exact h) ?_
              simp only [List.map_cons, List.map_nil, nthOp_zero, nthOp_succ]
              generalize w3.drew = w4 at *
              refine wpW_take (by kernel_rfl) (by intro W; go_simp; try with_reducible rfl) ?_
              refine wpW_take (by kernel_rfl) (by intro W; go_simp; try with_reducible rfl) ?_
              refine wpW_take (by kernel_rfl) (by intro W; go_simp; try with_reducible rfl) ?_
              refine wpW_take (by kernel_rfl) (by intro W; go_simp; try with_reducible rfl) ?_
              refine wpW_take (by kernel_rfl) (by intro W; go_simp; try with_reducible rfl) ?_
              refine wpW_take (by kernel_rfl) (by intro W; go_simp; try with_reducible rfl) ?_
              refine wpW_take (by kernel_rfl) (by intro W; go_simp; try with_reducible rfl) ?_
              refine wpW_take (by kernel_rfl) (by intro W; go_simp; try with_reducible rfl) ?_
              refine wpW_take (by kernel_rfl) (by intro W; go_simp; try with_reducible rfl) ?_
              refine wpW_take (by kernel_rfl) (by intro W; go_simp; try with_reducible rfl) ?_
              refine wpW_take (by kernel_rfl) (by intro W; go_simp; try with_reducible rfl) ?_
              refine wpW_skip (by kernel_rfl) ?_
              refine wpW_skip (by kernel_rfl) ?_
              refine wpW_skip (by kernel_rfl) ?_
              refine wpW_skip (by kernel_rfl) ?_
              refine wpW_skip (by kernel_rfl) ?_
              try go_simp
              refine wpW_do fun K1 hK1 => ?_
              go_wp2_with fail
              refine hK1.out _ _ ?_
              clear hK1 K1
              refine wpW_skip (by kernel_rfl) ?_
              refine wpW_take (by kernel_rfl) (by intro W; go_simp; try with_reducible rfl) ?_
              refine wpW_nil ?_
              try go_simp
              obtain ⟨c0, c1, f0, f1, c1', f1'⟩ := res_facts HR4.out
              go_wp2
              have hz := HR4.out.set2 (.int .u32 0) (.int .u8 0)
              exact bodyPost_ret (results_cell_row_tmp rfl _ _ w.heap.size 31 zP (0, 0) _ rfl hz Tryd.underlying31 rfl infoP) rfl ⟨by rw [hR.out]; rfl, (HB4.out.setCell (p := ⟨w.heap.size, 0, none⟩) (Nat.le_refl _) _).setCell (p := ⟨w.heap.size, 1, none⟩) (Nat.le_refl _) _⟩
            obtain ⟨n, rfl⟩ := Int.eq_ofNat_of_zero_le (by omega : 0 ≤ v)
            have hn : n ≤ 32 := by omega
            have hv00 : decide ((n : Int) < 0) = false := decide_eq_false hv0
            have hv11 : decide ((32 : Int) < n) = false := decide_eq_false hv1
            have hw1 : IntKind.i64.wrap ((pos : Int) + 1) = (pos : Int) + 1 := IntWalk.i64_in _ (by omega)
            have hb0 : (0 : Int) ≤ (pos : Int) + 1 := by omega
            have hb1 : (pos : Int) + 1 ≤ s.size := by omega
            have ht1 : ((pos : Int) + 1).toNat = pos + 1 := by omega
            have HI := Lib.hid (fun W => Tryd.strconv_Itoa_small n (by omega) W)
            by_cases hd : Lib.decDigits n = (bytesOf s).drop (cutL (bytesOf s) + 1)
            · have hstr2 : (Lib.decDigits n == (s.extract (pos + 1) s.size).toList) = true := by rw [Lib.toList_data]; show (Lib.decDigits n == bytesOf (s.extract (pos + 1) s.size)) = true; rw [e2, hd]; simp
              have hg := Lib.hid (parse_good had hcl hok hn hd)
              clear hv0 hv1 hd e1 e2
              have HR4 : Hid (Blk w3.drew w.heap.size 31 zP) := HR3.out.drewN 1
              have HB4 : Hid (Below w.heap.size w w3.drew) := HB3.out.drew
              clear HR3 HB3
              go_wp2_with fail
              refine wp_region_w [(0, true), (1, true), (2, true), (3, true), (4, true), (5, true), (6, true), (7, true), (8, true), (9, true), (10, true), (11, true), (13, true), (14, true), (15, true), (16, true), (12, false), (17, true), (18, true)] (by kernel_rfl) (fun _ d _ _ _ h => by cases d <;> exact h) ?_
              simp only [List.map_cons, List.map_nil, nthOp_zero, nthOp_succ]
              generalize w3.drew = w4 at *
              refine wpW_take (by kernel_rfl) (by intro W; go_simp; try with_reducible rfl) ?_
              refine wpW_take (by kernel_rfl) (by intro W; go_simp; try with_reducible rfl) ?_
              refine wpW_take (by kernel_rfl) (by intro W; go_simp; try with_reducible rfl) ?_
              refine wpW_take (by kernel_rfl) (by intro W; go_simp; try with_reducible rfl) ?_
              refine wpW_take (by kernel_rfl) (by intro W; go_simp; try with_reducible rfl) ?_
              refine wpW_take (by kernel_rfl) (by intro W; go_simp; try with_reducible rfl) ?_
              refine wpW_take (by kernel_rfl) (by intro W; go_simp; try with_reducible rfl) ?_
              refine wpW_take (by kernel_rfl) (by intro W; go_simp; try with_reducible rfl) ?_
              refine wpW_take (by kernel_rfl) (by intro W; go_simp; try with_reducible rfl) ?_
              refine wpW_take (by kernel_rfl) (by intro W; go_simp; try with_reducible rfl) ?_
              refine wpW_take (by kernel_rfl) (by intro W; go_simp; try with_reducible rfl) ?_
              refine wpW_take (by kernel_rfl) (by intro W; go_simp; try with_reducible rfl) ?_
              refine wpW_take (by kernel_rfl) (by intro W; go_simp; try with_reducible rfl) ?_
              refine wpW_take (by kernel_rfl) (by intro W; go_simp; try with_reducible rfl) ?_
              refine wpW_take (by kernel_rfl) (by intro W; go_simp; try with_reducible rfl) ?_
              refine wpW_take (by kernel_rfl) (by intro W; go_simp; try with_reducible rfl) ?_
              try go_simp
              refine wpW_do fun K1 hK1 => ?_
              go_wp2_with fail
              refine (HI.out _).mono ?_
              rintro e w5 ⟨rfl, rfl⟩
              go_wp2_with fail
              refine hK1.out _ _ ?_
              clear hK1 K1
              refine wpW_take (by kernel_rfl) (by intro W; go_simp; try with_reducible rfl) ?_
              refine wpW_take (by kernel_rfl) (by intro W; go_simp; try with_reducible rfl) ?_
              refine wpW_nil ?_
              try go_simp
              have HC := Lib.hid (fun W => check_any ⟨a, n⟩ W ⟨adP_lt had, by show n < 256; omega⟩)
              simp only at HC
              have hw8 : IntKind.u8.wrap (n : Int) = n := IntWalk.u8_in _ (by omega)
              clear hok hv00 hv11 hw1 hb0 hb1 ht1 hstr2
              cases hz : isP a n
              · have hR : Hid (parseP (bytesOf s) = (⟨0, 0⟩, 12)) := by show _ = _; rw [hg.out, hz]; rfl
                rw [hz, show errP false = 12 from rfl] at HC
                go_wp2_with fail
                refine (HC.out _).mono ?_
                rintro e w6 ⟨rfl, hb⟩
                have HR6 := Lib.hid ((HR4.out.alloc _).later hb)
                have HB6 := Lib.hid (below_lit HB4.out _ hb)
                clear hb
                obtain ⟨c0, c1, f0, f1, c1', f1'⟩ := res_facts HR6.out
                go_wp2
                have hz2 := HR6.out.set2 (.int .u32 0) (.int .u8 0)
                exact bodyPost_ret (results_cell_row_tmp rfl _ _ w.heap.size 31 zP (0, 0) _ rfl hz2 Tryd.underlying31 rfl infoP) rfl ⟨by rw [hR.out]; rfl, (HB6.out.setCell (p := ⟨w.heap.size, 0, none⟩) (Nat.le_refl _) _).setCell (p := ⟨w.heap.size, 1, none⟩) (Nat.le_refl _) _⟩
              · have hR : Hid (parseP (bytesOf s) = (⟨a, n⟩, 0)) := by show _ = _; rw [hg.out, hz]; rfl
                rw [hz, show errP true = 0 from rfl] at HC
                go_wp2_with fail
                refine (HC.out _).mono ?_
                rintro e w6 ⟨rfl, hb⟩
                have HR6 := Lib.hid ((HR4.out.alloc _).later hb)
                have HB6 := Lib.hid (below_lit HB4.out _ hb)
                obtain ⟨k0, k1, _, _⟩ := kept2 hb
                clear hb
                obtain ⟨c0, c1, f0, f1, c1', f1'⟩ := res_facts HR6.out
                go_wp2
                have hz2 := HR6.out.set2 (.int .u32 a) (.int .u8 n)
                exact bodyPost_ret (results_cell_row_tmp rfl _ _ w.heap.size 31 #[.int .u32 a, .int .u8 n] (0, 0) _ rfl hz2 Tryd.underlying31 rfl infoP) rfl ⟨by rw [hR.out]; rfl, (HB6.out.setCell (p := ⟨w.heap.size, 0, none⟩) (Nat.le_refl _) _).setCell (p := ⟨w.heap.size, 1, none⟩) (Nat.le_refl _) _⟩
            · have hR : Hid (parseP (bytesOf s) = (⟨0, 0⟩, 13)) := parse_bad fun v' hv' => by rw [hok] at hv'; injection hv' with hv'; subst hv'; exact .inr (.inr (by rw [Int.toNat_natCast]; exact hd))
              have hstr2 : (Lib.decDigits n == (s.extract (pos + 1) s.size).toList) = false := by rw [Lib.toList_data]; show (Lib.decDigits n == bytesOf (s.extract (pos + 1) s.size)) = false; rw [e2, Bool.eq_false_iff]; intro h; exact hd (eq_of_beq h)
              clear hv0 hv1 hd e1 e2
              have HR4 : Hid (Blk w3.drew w.heap.size 31 zP) := HR3.out.drewN 1
              have HB4 : Hid (Below w.heap.size w w3.drew) := HB3.out.drew
              clear HR3 HB3
              go_wp2_with fail
              refine wp_region_w [(0, true), (1, true), (2, true), (3, true), (4, true), (5, true), (6, true), (7, true), (8, true), (9, true), (10, true), (11, true), (13, true), (14, true), (15, true), (16, true), (12, false), (17, true), (18, true)] (by kernel_rfl) (fun _ d _ _ _ h => by cases d <;> exact h) ?_
              simp only [List.map_cons, List.map_nil, nthOp_zero, nthOp_succ]
              generalize w3.drew = w4 at *
              refine wpW_take (by kernel_rfl) (by intro W; go_simp; try with_reducible rfl) ?_
              refine wpW_take (by kernel_rfl) (by intro W; go_simp; try with_reducible rfl) ?_
              refine wpW_take (by kernel_rfl) (by intro W; go_simp; try with_reducible rfl) ?_
              refine wpW_take (by kernel_rfl) (by intro W; go_simp; try with_reducible rfl) ?_
              refine wpW_take (by kernel_rfl) (by intro W; go_simp; try with_reducible rfl) ?_
              refine wpW_take (by kernel_rfl) (by intro W; go_simp; try with_reducible rfl) ?_
              refine wpW_take (by kernel_rfl) (by intro W; go_simp; try with_reducible rfl) ?_
              refine wpW_take (by kernel_rfl) (by intro W; go_simp; try with_reducible rfl) ?_
              refine wpW_take (by kernel_rfl) (by intro W; go_simp; try with_reducible rfl) ?_
              refine wpW_take (by kernel_rfl) (by intro W; go_simp; try with_reducible rfl) ?_
              refine wpW_take (by kernel_rfl) (by intro W; go_simp; try with_reducible rfl) ?_
              refine wpW_take (by kernel_rfl) (by intro W; go_simp; try with_reducible rfl) ?_
              refine wpW_take (by kernel_rfl) (by intro W; go_simp; try with_reducible rfl) ?_
              refine wpW_take (by kernel_rfl) (by intro W; go_simp; try with_reducible rfl) ?_
              refine wpW_take (by kernel_rfl) (by intro W; go_simp; try with_reducible rfl) ?_
              refine wpW_take (by kernel_rfl) (by intro W; go_simp; try with_reducible rfl) ?_
              try go_simp
              refine wpW_do fun K1 hK1 => ?_
              go_wp2_with fail
              refine (HI.out _).mono ?_
              rintro e w5 ⟨rfl, rfl⟩
              go_wp2_with fail
              refine hK1.out _ _ ?_
              clear hK1 K1
              refine wpW_take (by kernel_rfl) (by intro W; go_simp; try with_reducible rfl) ?_
              refine wpW_take (by kernel_rfl) (by intro W; go_simp; try with_reducible rfl) ?_
              refine wpW_nil ?_
              try go_simp
              obtain ⟨c0, c1, f0, f1, c1', f1'⟩ := res_facts HR4.out
              go_wp2
              have hz := HR4.out.set2 (.int .u32 0) (.int .u8 0)
              exact bodyPost_ret (results_cell_row_tmp rfl _ _ w.heap.size 31 zP (0, 0) _ rfl hz Tryd.underlying31 rfl infoP) rfl ⟨by rw [hR.out]; rfl, (HB4.out.setCell (p := ⟨w.heap.size, 0, none⟩) (Nat.le_refl _) _).setCell (p := ⟨w.heap.size, 1, none⟩) (Nat.le_refl _) _⟩
          · have hR : Hid (parseP (bytesOf s) = (⟨0, 0⟩, 13)) := parse_bad fun v hv => absurd hv (hbad v)
            have HR4 : Hid (Blk w3.drew w.heap.size 31 zP) := HR3.out.drewN 1
            have HB4 : Hid (Below w.heap.size w w3.drew) := HB3.out.drew
            clear hbad HR3 HB3
            go_wp2_with fail
            refine wp_region_w [(0, true), (1, true), (2, true), (3, true), (4, true), (5, true), (6, true), (7, true), (8, true), (9, true), (10, true), (11, true), (13, true), (14, true), (15, true), (16, true), (12, false), (17, true), (18, true)] (by kernel_rfl) (fun _ d _ _ _ h => by cases d <;> exact h) ?_
            simp only [List.map_cons, List.map_nil, nthOp_zero, nthOp_succ]
            generalize w3.drew = w4 at *
            refine wpW_take (by kernel_rfl) (by intro W; go_simp; try with_reducible rfl) ?_
            refine wpW_take (by kernel_rfl) (by intro W; go_simp; try with_reducible rfl) ?_
            refine wpW_take (by kernel_rfl) (by intro W; go_simp; try with_reducible rfl) ?_
            refine wpW_skip (by kernel_rfl) ?_
            refine wpW_skip (by kernel_rfl) ?_
            refine wpW_take (by kernel_rfl) (by intro W; go_simp; try with_reducible rfl) ?_
            refine wpW_take (by kernel_rfl) (by intro W; go_simp; try with_reducible rfl) ?_
            refine wpW_skip (by kernel_rfl) ?_
            refine wpW_skip (by kernel_rfl) ?_
            refine wpW_take (by kernel_rfl) (by intro W; go_simp; try with_reducible rfl) ?_
            refine wpW_take (by kernel_rfl) (by intro W; go_simp; try with_reducible rfl) ?_
            refine wpW_skip (by kernel_rfl) ?_
            refine wpW_skip (by kernel_rfl) ?_
            refine wpW_skip (by kernel_rfl) ?_
            refine wpW_skip (by kernel_rfl) ?_
            refine wpW_skip (by kernel_rfl) ?_
            try go_simp
            refine wpW_do fun K1 hK1 => ?_
            go_wp2_with fail
            refine hK1.out _ _ ?_
            clear hK1 K1
            refine wpW_skip (by kernel_rfl) ?_
            refine wpW_take (by kernel_rfl) (by intro W; go_simp; try with_reducible rfl) ?_
            refine wpW_nil ?_
            try go_simp
            obtain ⟨c0, c1, f0, f1, c1', f1'⟩ := res_facts HR4.out
            go_wp2
            have hz := HR4.out.set2 (.int .u32 0) (.int .u8 0)
            exact bodyPost_ret (results_cell_row_tmp rfl _ _ w.heap.size 31 zP (0, 0) _ rfl hz Tryd.underlying31 rfl infoP) rfl ⟨by rw [hR.out]; rfl, (HB4.out.setCell (p := ⟨w.heap.size, 0, none⟩) (Nat.le_refl _) _).setCell (p := ⟨w.heap.size, 1, none⟩) (Nat.le_refl _) _⟩
      · have hri : ((r : Int) == 47) = false := by simp; omega
        have HN' : Hid (∀ i, i < pos + k → (bytesOf s)[i]? ≠ some 47) := s4 hr
        have HR := Lib.hid hres2
        have HB := Lib.hid hbw2
        have HI := Lib.hid hit2
        clear s3 s4 hr hres hbw hres2 hbw2 hno hit2
        go_wp2
        go_roundw
        case rel => exact ⟨rfl, ⟨pos + k, s2, HN', HI.out⟩, HR.out, HB.out⟩
        case measure => rw [hmeas, hmeas0]; omega
    · have hnx : ∀ ty, (Instr.next (.pointer (some ⟨w.heap.size + 1, 0, none⟩)) true ty).run Tryd.prog wr = _ := fun ty => Lib.run_next_end_at wr (w.heap.size + 1) s pos ty hit hps
      have hc : cutL (bytesOf s) = (bytesOf s).length := cutL_none _ (fun i hi => hno.out i (by rw [Array.length_toList] at hi; have : s.data.size = s.size := rfl; omega))
      have hR : Hid (parseP (bytesOf s) = (⟨0, 0⟩, 13)) := parse_nocut hc
      have HR := Lib.hid hres
      have HB := Lib.hid hbw
      clear hno hres hbw hc
      have HA := Lib.hid (address_any wr s hm)
      have hss : ((s.size : Int) == s.size) = true := by simp
      cases had : adP 3 (bytesOf s) 0
      all_goals
        rw [had] at HA
        simp only [outN] at HA
        go_wp2_with fail
        refine HA.out.mono ?_
        rintro e w1 ⟨rfl, hb⟩
        have HR1 := Lib.hid (HR.out.later hb)
        have HB1 := Lib.hid (below_then HB.out hb)
        clear hb HR HB
        obtain ⟨c0, c1, f0, f1, c1', f1'⟩ := res_facts HR1.out
        go_wp2_with fail
        have hz := HR1.out.set2 (.int .u32 0) (.int .u8 0)
        exact bodyPost_ret (results_cell_row_tmp rfl _ _ w.heap.size 31 zP (0, 0) _ rfl hz Tryd.underlying31 rfl infoP) rfl ⟨by rw [hR.out]; rfl, (HB1.out.setCell (p := ⟨w.heap.size, 0, none⟩) (Nat.le_refl _) _).setCell (p := ⟨w.heap.size, 1, none⟩) (Nat.le_refl _) _⟩
end Go.Proofs.YtljmmpjcagchmaaDoor
