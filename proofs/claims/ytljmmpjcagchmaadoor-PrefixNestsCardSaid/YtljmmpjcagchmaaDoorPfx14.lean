/-
  The reference's Parse, walked.
-/
import Derived.Test.YtljmmpjcagchmaaDoorPfx13
import Derived.Test.YtljmmpjcagchmaaDoorPfx10
namespace Go.Proofs.YtljmmpjcagchmaaDoor
set_option linter.unusedVariables false
open Go.RowKit

/-- What the reference's Parse answers. -/
def parseR (l : List UInt8) : Pf × Int :=
  match splitL 47 l with
  | [x, y] => match adR x with
    | none => (⟨0, 0⟩, 13)
    | some a => if (numR y 32).2 = true then (if isP a (numR y 32).1 = true then (⟨a, (numR y 32).1⟩, 0) else (⟨0, 0⟩, 12)) else (⟨0, 0⟩, 13)
  | _ => (⟨0, 0⟩, 13)
theorem parseR_len {l : List UInt8} (h : (splitL 47 l).length ≠ 2) : parseR l = (⟨0, 0⟩, 13) := by
  unfold parseR
  split
  · rename_i x y hs; rw [hs] at h; simp at h
  · rfl
theorem adF_lt : ∀ (ws : List (List UInt8)) (acc a : Nat), adF ws acc = some a → a < (acc + 1) * 256 ^ ws.length := by
  intro ws
  induction ws with
  | nil => intro acc a h; simp [adF] at h; subst h; simp
  | cons x xs ih =>
    intro acc a h
    unfold adF at h
    split at h
    · rename_i h1
      have h2 := numR_lt h1
      have h3 := ih _ _ h
      have h4 : (256 * acc + (numR x 255).1 + 1) * 256 ^ xs.length ≤ ((acc + 1) * 256) * 256 ^ xs.length := Nat.mul_le_mul_right _ (by omega)
      have e : 256 ^ (xs.length + 1) = 256 * 256 ^ xs.length := by rw [Nat.pow_succ]; omega
      rw [Nat.mul_assoc, ← e] at h4
      rw [List.length_cons]
      omega
    · cases h
theorem adR_lt {l : List UInt8} {a : Nat} (h : adR l = some a) : a < 4294967296 := by
  unfold adR at h
  split at h
  · rename_i h1
    have := adF_lt _ _ _ h
    rw [h1] at this
    omega
  · cases h

theorem strs_cells2 {w : World} {base : Nat} {v : Value} {ws : List (List UInt8)} (h : w.ownsRow base 9 1 v ws.length (ws.map str)) (h0 : 0 < ws.length) :
    ∃ ad cap, v = .slice (some ad) ws.length cap ∧ ws.length ≤ cap ∧ cap ≤ 9223372036854775807 ∧ ∀ w', Below w.heap.size w w' → ∀ k x, ws[k]? = some x → w'.cell? (ad.add k) = some (str x) := by
  obtain ⟨A, c, rfl, h1, h2, hr⟩ := own_shape h
  obtain ⟨ad, rfl, hb, hc⟩ := hr.2 h0
  exact ⟨ad, c, rfl, h1, h2, fun w' hw k x hk => (hw.cell (by rw [block_of_add]; exact hb)).trans (hc k _ (by rw [List.getElem?_map, hk]; rfl))⟩
set_option maxRecDepth 100000 in
set_option maxHeartbeats 2000000 in
theorem refParse_any (w : World) (s : ByteArray) (hm : s.size ≤ 1099511627776) :
    Calls Tryd.prog 17 #[.string s] w fun e w' => e = .returned (outP (parseR (bytesOf s))) ∧ Below w.heap.size w w' := by
  have HS : Hid (∀ W : World, Calls Tryd.prog 40 #[.string s, .int .u8 47] W fun e w' => ∃ v, e = .returned v ∧ w'.ownsRow W.heap.size 9 1 v (splitL 47 (bytesOf s)).length ((splitL 47 (bytesOf s)).map str) ∧ Below W.heap.size W w') := fun W => split_any W s 47 hm
  have hsl := split_len 47 (bytesOf s)
  have hpos : 0 < (splitL 47 (bytesOf s)).length := List.length_pos_iff.2 (splitL_ne _ _)
  rw [len_bytes] at hsl
  have HR0 : Hid (Blk (w.alloc (.cells zP 31)) w.heap.size 31 zP) := Blk.new _ _ _
  have HB0 : Hid (Below w.heap.size w (w.alloc (.cells zP 31))) := (Below.refl _ _).alloc (Nat.le_refl _) _
  by_cases h2 : (splitL 47 (bytesOf s)).length = 2
  · obtain ⟨x, y, hxy⟩ : ∃ x y, splitL 47 (bytesOf s) = [x, y] := by
      match hh : splitL 47 (bytesOf s), h2 with
      | [x, y], _ => exact ⟨x, y, rfl⟩
    have hR : Hid (parseR (bytesOf s) = match adR x with
      | none => (⟨0, 0⟩, 13)
      | some a => if (numR y 32).2 = true then (if isP a (numR y 32).1 = true then (⟨a, (numR y 32).1⟩, 0) else (⟨0, 0⟩, 12)) else (⟨0, 0⟩, 13)) := by show _ = _; unfold parseR; rw [hxy]
    rw [hxy] at HS hsl
    clear hxy h2 hpos
    have hx := hsl x (by simp)
    have hy := hsl y (by simp)
    clear hsl
    have HA := Lib.hid (fun W => refAddress_any W (bstr x) (by rw [size_bstr]; omega))
    have HN := Lib.hid (fun W => number_any W (bstr y) 32 (by rw [size_bstr]; omega) (by omega))
    have hnl := numR_lt (l := y) (most := 32)
    have hal := fun a => adR_lt (l := x) (a := a)
    simp only [bytes_bstr] at HA HN
    rw [show (((32 : Nat)) : Int) = 32 from rfl] at HN
    generalize numR y 32 = nb at *
    generalize adR x = o at *
    obtain ⟨n, b⟩ := nb
    go_enter Tryd.func17, Tryd.ntmps17
    go_wp2_with fail
    refine (HS.out _).mono ?_
    rintro e w1 ⟨v, rfl, ho, hb⟩
    have HR1 := Lib.hid (HR0.out.later hb)
    have HB1 := Lib.hid (below_then HB0.out hb)
    obtain ⟨ad, cap, rfl, hc1, hc2, hcell⟩ := strs_cells2 ho (by simp)
    have hk0 : w1.cell? ad = some (str x) := by
      have := hcell w1 (Below.refl _ _) 0 x rfl
      simpa [Addr.add] using this
    have HK1 : Hid (∀ w', Below w1.heap.size w1 w' → w'.cell? ⟨ad.block, ad.off + 1, none⟩ = some (str y)) := fun w' hw => hcell w' hw 1 y rfl
    clear ho hb HS HR0 HB0 hcell
    simp only [List.length_cons, List.length_nil, Nat.zero_add] at hc1 ⊢
    cases o with
    | none =>
      have hv : Hid (parseR (bytesOf s) = (⟨0, 0⟩, 13)) := hR.out
      simp only [outN] at HA
      go_wp2_with fail
      refine (HA.out _).mono ?_
      rintro e w2 ⟨rfl, hb⟩
      have hk1 := HK1.out w2 hb
      have HR2 := Lib.hid (HR1.out.later hb)
      have HB2 := Lib.hid (below_then HB1.out hb)
      clear hb HR1 HB1
      go_wp2_with fail
      refine (HN.out _).mono ?_
      rintro e w3 ⟨rfl, rfl⟩
      obtain ⟨c0, c1, f0, f1, c1', f1'⟩ := res_facts HR2.out
      go_wp2_with fail
      have hz2 := HR2.out.set2 (.int .u32 0) (.int .u8 0)
      exact bodyPost_ret (results_cell_row_tmp rfl _ _ w.heap.size 31 zP (0, 0) _ rfl hz2 Tryd.underlying31 rfl infoP) rfl ⟨by rw [hv.out]; rfl, (HB2.out.setCell (p := ⟨w.heap.size, 0, none⟩) (Nat.le_refl _) _).setCell (p := ⟨w.heap.size, 1, none⟩) (Nat.le_refl _) _⟩
    | some a =>
      simp only [outN] at HA
      have ha := hal a rfl
      go_wp2_with fail
      refine (HA.out _).mono ?_
      rintro e w2 ⟨rfl, hb⟩
      have hk1 := HK1.out w2 hb
      have HR2 := Lib.hid (HR1.out.later hb)
      have HB2 := Lib.hid (below_then HB1.out hb)
      clear hb HR1 HB1
      cases b
      · have hv : Hid (parseR (bytesOf s) = (⟨0, 0⟩, 13)) := hR.out
        go_wp2_with fail
        refine (HN.out _).mono ?_
        rintro e w3 ⟨rfl, rfl⟩
        obtain ⟨c0, c1, f0, f1, c1', f1'⟩ := res_facts HR2.out
        go_wp2_with fail
        have hz2 := HR2.out.set2 (.int .u32 0) (.int .u8 0)
        exact bodyPost_ret (results_cell_row_tmp rfl _ _ w.heap.size 31 zP (0, 0) _ rfl hz2 Tryd.underlying31 rfl infoP) rfl ⟨by rw [hv.out]; rfl, (HB2.out.setCell (p := ⟨w.heap.size, 0, none⟩) (Nat.le_refl _) _).setCell (p := ⟨w.heap.size, 1, none⟩) (Nat.le_refl _) _⟩
      · have hn := hnl rfl
        have hg : Hid (parseR (bytesOf s) = if isP a n = true then (⟨a, n⟩, 0) else (⟨0, 0⟩, 12)) := hR.out
        have HC : Hid (∀ W : World, Calls Tryd.prog 32 #[.agg #[.int .u32 a, .int .u8 n]] W fun e w' => e = .returned (.bool (isP a n)) ∧ Below W.heap.size W w') := fun W => refIs_any ⟨a, n⟩ W ⟨ha, by show n < 256; omega⟩
        have hw8 : IntKind.u8.wrap (n : Int) = n := IntWalk.u8_in _ (by omega)
        clear hR
        cases hz : isP a n
        · have hv : Hid (parseR (bytesOf s) = (⟨0, 0⟩, 12)) := by show _ = _; rw [hg.out, hz]; rfl
          rw [hz] at HC
          go_wp2_with fail
          refine (HN.out _).mono ?_
          rintro e w3 ⟨rfl, rfl⟩
          go_wp2_with fail
          refine (HC.out _).mono ?_
          rintro e w6 ⟨rfl, hb⟩
          have HR6 := Lib.hid ((HR2.out.alloc _).later hb)
          have HB6 := Lib.hid (below_lit HB2.out _ hb)
          clear hb
          obtain ⟨c0, c1, f0, f1, c1', f1'⟩ := res_facts HR6.out
          go_wp2_with fail
          have hz2 := HR6.out.set2 (.int .u32 0) (.int .u8 0)
          exact bodyPost_ret (results_cell_row_tmp rfl _ _ w.heap.size 31 zP (0, 0) _ rfl hz2 Tryd.underlying31 rfl infoP) rfl ⟨by rw [hv.out]; rfl, (HB6.out.setCell (p := ⟨w.heap.size, 0, none⟩) (Nat.le_refl _) _).setCell (p := ⟨w.heap.size, 1, none⟩) (Nat.le_refl _) _⟩
        · have hv : Hid (parseR (bytesOf s) = (⟨a, n⟩, 0)) := by show _ = _; rw [hg.out, hz]; rfl
          rw [hz] at HC
          go_wp2_with fail
          refine (HN.out _).mono ?_
          rintro e w3 ⟨rfl, rfl⟩
          go_wp2_with fail
          refine (HC.out _).mono ?_
          rintro e w6 ⟨rfl, hb⟩
          have HR6 := Lib.hid ((HR2.out.alloc _).later hb)
          have HB6 := Lib.hid (below_lit HB2.out _ hb)
          obtain ⟨k0, k1, _, _⟩ := kept2 hb
          clear hb
          obtain ⟨c0, c1, f0, f1, c1', f1'⟩ := res_facts HR6.out
          go_wp2_with fail
          have hz2 := HR6.out.set2 (.int .u32 a) (.int .u8 n)
          exact bodyPost_ret (results_cell_row_tmp rfl _ _ w.heap.size 31 #[.int .u32 a, .int .u8 n] (0, 0) _ rfl hz2 Tryd.underlying31 rfl infoP) rfl ⟨by rw [hv.out]; rfl, (HB6.out.setCell (p := ⟨w.heap.size, 0, none⟩) (Nat.le_refl _) _).setCell (p := ⟨w.heap.size, 1, none⟩) (Nat.le_refl _) _⟩
  · have h2i : (((splitL 47 (bytesOf s)).length : Int) != 2) = true := by simp; omega
    have hR : Hid (parseR (bytesOf s) = (⟨0, 0⟩, 13)) := parseR_len h2
    generalize splitL 47 (bytesOf s) = ws at *
    clear hsl h2
    go_enter Tryd.func17, Tryd.ntmps17
    go_wp2_with fail
    refine (HS.out _).mono ?_
    rintro e w1 ⟨v, rfl, ho, hb⟩
    have HR1 := Lib.hid (HR0.out.later hb)
    have HB1 := Lib.hid (below_then HB0.out hb)
    obtain ⟨ad, cap, rfl, hc1, hc2, hcell⟩ := strs_cells ho hpos
    clear ho hb HS HR0 HB0 hcell
    obtain ⟨c0, c1, f0, f1, c1', f1'⟩ := res_facts HR1.out
    go_wp2_with fail
    have hz2 := HR1.out.set2 (.int .u32 0) (.int .u8 0)
    exact bodyPost_ret (results_cell_row_tmp rfl _ _ w.heap.size 31 zP (0, 0) _ rfl hz2 Tryd.underlying31 rfl infoP) rfl ⟨by rw [hR.out]; rfl, (HB1.out.setCell (p := ⟨w.heap.size, 0, none⟩) (Nat.le_refl _) _).setCell (p := ⟨w.heap.size, 1, none⟩) (Nat.le_refl _) _⟩
end Go.Proofs.YtljmmpjcagchmaaDoor
