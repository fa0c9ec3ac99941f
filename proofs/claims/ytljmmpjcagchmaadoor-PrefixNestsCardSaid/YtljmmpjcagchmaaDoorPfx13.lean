/-
  The reference's Address, walked.
-/
import Derived.Test.YtljmmpjcagchmaaDoorPfx12
import Derived.Test.YtljmmpjcagchmaaDoorPfx9
namespace Go.Proofs.YtljmmpjcagchmaaDoor
set_option linter.unusedVariables false
open Go.RowKit

/-- Numbers, one behind the other. -/
def adF : List (List UInt8) → Nat → Option Nat
  | [], acc => some acc
  | x :: xs, acc => if (numR x 255).2 = true then adF xs (256 * acc + (numR x 255).1) else none
def adR (l : List UInt8) : Option Nat := if (splitL 46 l).length = 4 then adF (splitL 46 l) 0 else none
theorem split_len (c : UInt8) : ∀ (l : List UInt8), ∀ x ∈ splitL c l, x.length ≤ l.length := by
  intro l
  induction l with
  | nil => intro x hx; simp [splitL] at hx; simp [hx]
  | cons y r ih =>
    intro x hx
    unfold splitL at hx
    split at hx
    · simp only [List.mem_cons] at hx
      rcases hx with rfl | hx
      · simp
      · have := ih x hx
        simp; omega
    · split at hx
      · simp only [List.mem_singleton] at hx
        subst hx; simp
      · rename_i w ws hs
        simp only [List.mem_cons] at hx
        rcases hx with rfl | hx
        · have := ih w (by rw [hs]; simp)
          simp; omega
        · have := ih x (by rw [hs]; simp [hx])
          simp; omega
theorem numR_lt {l : List UInt8} {most : Nat} (h : (numR l most).2 = true) : (numR l most).1 ≤ most := by
  unfold numR at h ⊢
  split
  · rename_i h1; rw [if_pos h1] at h; cases h
  · rename_i h1
    rw [if_neg h1] at h
    split
    · rename_i h2; rw [h2] at h; cases h
    · rename_i n h2
      rw [h2] at h
      simpa using h
abbrev bstr (l : List UInt8) : ByteArray := ⟨l.toArray⟩
theorem bytes_bstr (l : List UInt8) : bytesOf (bstr l) = l := rfl
theorem size_bstr (l : List UInt8) : (bstr l).size = l.length := by rw [← len_bytes]
/-- A row of texts. -/
theorem strs_cells {w : World} {base : Nat} {v : Value} {ws : List (List UInt8)} (h : w.ownsRow base 9 1 v ws.length (ws.map str)) (h0 : 0 < ws.length) :
    ∃ ad cap, v = .slice (some ad) ws.length cap ∧ ws.length ≤ cap ∧ cap ≤ 9223372036854775807 ∧ ∀ k x, ws[k]? = some x → w.cell? (ad.add k) = some (str x) := by
  obtain ⟨A, c, rfl, h1, h2, hr⟩ := own_shape h
  obtain ⟨ad, rfl, _, hc⟩ := hr.2 h0
  exact ⟨ad, c, rfl, h1, h2, fun k x hk => hc k _ (by rw [List.getElem?_map, hk]; rfl)⟩
def FRel (w1 : World) (ws : List (List UInt8)) (addr i : Value) (wr : World) : Prop :=
  ∃ k acc : Nat, i = .int .i64 k ∧ addr = .int .u32 acc ∧ k ≤ 4 ∧ acc < 256 ^ k ∧ Hid (adF ws 0 = adF (ws.drop k) acc) ∧ wr = w1
theorem below_or {B : Nat} {w w' : World} (h : Below w.heap.size w w') : Below w.heap.size w w' := h
set_option maxRecDepth 100000 in
set_option maxHeartbeats 2000000 in
theorem refAddress_any (w : World) (s : ByteArray) (hm : s.size ≤ 1099511627776) :
    Calls Tryd.prog 15 #[.string s] w fun e w' => e = .returned (outN (adR (bytesOf s))) ∧ Below w.heap.size w w' := by
  have HS : Hid (Calls Tryd.prog 40 #[.string s, .int .u8 46] w fun e w' => ∃ v, e = .returned v ∧ w'.ownsRow w.heap.size 9 1 v (splitL 46 (bytesOf s)).length ((splitL 46 (bytesOf s)).map str) ∧ Below w.heap.size w w') := split_any w s 46 hm
  have hsl := split_len 46 (bytesOf s)
  have hR : Hid (adR (bytesOf s) = if (splitL 46 (bytesOf s)).length = 4 then adF (splitL 46 (bytesOf s)) 0 else none) := rfl
  have hpos : 0 < (splitL 46 (bytesOf s)).length := List.length_pos_iff.2 (splitL_ne _ _)
  rw [len_bytes] at hsl
  generalize splitL 46 (bytesOf s) = ws at *
  go_enter Tryd.func15, Tryd.ntmps15
  go_wp2_with fail
  refine HS.out.mono ?_
  rintro e w1 ⟨v, rfl, ho, hb⟩
  have HB := Lib.hid hb
  obtain ⟨ad, cap, rfl, hc1, hc2, hcell⟩ := strs_cells ho hpos
  have HCL := Lib.hid hcell
  clear ho hb HS hcell
  by_cases h4 : ws.length = 4
  · have h4i : ((ws.length : Int) != 4) = false := by simp [h4]
    have hR2 : Hid (adR (bytesOf s) = adF ws 0) := by show _ = _; rw [hR.out, if_pos h4]
    clear hR hpos
    go_wp2_with fail
    go_loopw [5, 6] (FRel w1 ws) (fun _ i _ => 4 - (intOf i).toNat)
    case atStart => exact ⟨0, 0, rfl, rfl, by omega, by omega, rfl, rfl⟩
    case round =>
      obtain ⟨k, acc, rfl, rfl, hk, hacc, hF, rfl⟩ := hrel
      by_cases hlt : k < 4
      · have hlti : (k : Int) < 4 := by omega
        have hkw : k < ws.length := by omega
        have hgk : ws[k]? = some ws[k] := List.getElem?_eq_getElem hkw
        have hck := HCL.out k _ hgk
        have hdk : ws.drop k = ws[k] :: ws.drop (k + 1) := List.drop_eq_getElem_cons hkw
        have hlen := hsl ws[k] (List.getElem_mem hkw)
        have hkl : (k : Int) < ws.length := by omega
        have h256 := pow256_le (by omega : k ≤ 3)
        have h257 : 256 ^ (k + 1) = 256 * 256 ^ k := by rw [Nat.pow_succ]; omega
        have HN := Lib.hid (number_any wr (bstr ws[k]) 255 (by rw [size_bstr]; omega) (by omega))
        rw [bytes_bstr, show (((255 : Nat)) : Int) = 255 from rfl] at HN
        have hnl := numR_lt (l := ws[k]) (most := 255)
        have hFs : Hid (adF (ws.drop k) acc = if (numR ws[k] 255).2 = true then adF (ws.drop (k + 1)) (256 * acc + (numR ws[k] 255).1) else none) := by show _ = _; rw [hdk, adF]
        generalize ws[k] = x at *
        clear hgk hdk
        generalize numR x 255 = nb at *
        obtain ⟨n, b⟩ := nb
        cases b
        · have hv : Hid (adR (bytesOf s) = none) := by show _ = _; rw [hR2.out, hF.out, hFs.out]; rfl
          clear hF hFs hnl
          go_wp2_with fail
          refine HN.out.mono ?_
          rintro e w2 ⟨rfl, rfl⟩
          go_wp2_with fail
          go_ret2
          exact ⟨by rw [hv.out]; rfl, HB.out⟩
        · have hn := hnl rfl
          simp only at hn
          have hF2 : Hid (adF ws 0 = adF (ws.drop (k + 1)) (256 * acc + n)) := by show _ = _; rw [hF.out, hFs.out]; rfl
          clear hF hFs hnl
          have w1' : IntKind.u32.wrap (256 * (acc : Int)) = 256 * acc := IntWalk.u32_in _ (by omega)
          have w2' : IntKind.u32.wrap (n : Int) = n := IntWalk.u32_in _ (by omega)
          have w3' : IntKind.u32.wrap (256 * (acc : Int) + n) = 256 * acc + n := IntWalk.u32_in _ (by omega)
          go_wp2_with fail
          refine HN.out.mono ?_
          rintro e w2 ⟨rfl, rfl⟩
          go_wp2_with fail
          go_roundw
          case rel => exact ⟨k + 1, 256 * acc + n, by simp, by simp, by omega, by omega, hF2, rfl⟩
          case measure => simp [intOf]; omega
      · obtain rfl : k = 4 := by omega
        have hv : Hid (adR (bytesOf s) = some acc) := by show _ = _; rw [hR2.out, hF.out, List.drop_eq_nil_of_le (by omega), adF]
        clear hF
        rw [show (((4 : Nat)) : Int) = 4 from rfl]
        go_wp2
        go_ret2
        exact ⟨by rw [hv.out]; rfl, HB.out⟩
  · have h4i : ((ws.length : Int) != 4) = true := by simp; omega
    have hv : Hid (adR (bytesOf s) = none) := by show _ = _; rw [hR.out, if_neg h4]
    clear hR
    go_wp2_with fail
    go_ret2
    exact ⟨by rw [hv.out]; rfl, HB.out⟩
end Go.Proofs.YtljmmpjcagchmaaDoor
