/-
  packet.summed, packet.Right, auth.whole, walked.
-/
import Derived.Test.YtbkejlalbjomkaaAutP1
import Derived.Test.YtbkejlalbjomkaaOwnP
import Derived.Test.YtbkejlalbjomkaaRgn
namespace Go.Proofs.Ytbkejlalbjomkaa
set_option linter.unusedVariables false
open Go.RowKit

/-- What of a packet the sum is over. -/
def sumd (xs : List Int) : List Int := xs.take 16 ++ xs.drop 24
theorem OwnB.caps {w0 w : World} {A : Option Addr} {n c : Nat} {L : List Int} (h : OwnB w0 w (.slice A n c) L) (hn : L.length = n) : n ≤ c ∧ c ≤ 9223372036854775807 := by
  subst hn
  rcases h.1.2 with ⟨h1, _⟩ | ⟨g, cap, cur, h1, _, _, h2, h3, _⟩
  · injection h1 with _ h1 h2; omega
  · injection h1 with _ h1 h4; unfold maxLen at h3; omega
theorem below_drewN_left {w w' : World} {d : Nat} (h : Below (w.drewN d).heap.size (w.drewN d) w') : Below w.heap.size w w' := ⟨h.os, h.tape, h.output, h.size, h.block⟩
def SumdAt (w w' : World) (xs : List Int) (e : Ending) : Prop := ∃ v, e = .returned v ∧ OwnB w w' v (sumd xs)
theorem Oct.sumd {xs : List Int} (h : Oct xs) : Oct (sumd xs) := (h.take 16).append (h.drop 24)
set_option maxHeartbeats 4000000 in
theorem summed_any (A : Option Addr) (n c : Nat) (xs : List Int) (w : World) (hx : Reads w w.heap.size 1 A n (u8s xs)) (h24 : 24 ≤ n) (hc : n ≤ c) (hm : c ≤ 9223372036854775807) (hn : n ≤ 1099511627776) :
    Calls Try.prog 43 #[.slice A n c] w fun e w' => SumdAt w w' xs e := by
  obtain ⟨ad, rfl⟩ : ∃ ad, A = some ad := by obtain ⟨ad, e, _⟩ := hx.2 (by omega); exact ⟨ad, e⟩
  have hl := hx.u8len
  have H16 : Hid (Reads w w.heap.size 1 (some ad) 16 (u8s (xs.take 16))) := hx.u8pre (by omega)
  have hl16 : Hid ((xs.take 16).length = 16) := by show _ = _; rw [List.length_take]; omega
  have hmk := fun W => run_makeN (P := Try.prog) Try.underlying39 info_u8 rfl .i64 .i64 0 n (by omega) (by omega) (by omega) W
  simp only [Int.natCast_zero] at hmk
  have hown0 : ∀ W : World, Hid ((W.alloc (.cells (madeCells #[Value.int .u8 0] n) 5)).ownsRow W.heap.size 5 1 (.slice (some ⟨W.heap.size, 0, none⟩) 0 n) 0 (u8s [])) := fun W => by
    have := World.ownsRow_made (base := W.heap.size) (e := 5) (size := 1) W (madeCells #[.int .u8 0] n) n (Nat.le_refl _) (by simp only [maxLen]; omega) (by rw [madeCells_size]; simp)
    exact this
  have h16c : (16 : Int) ≤ (c : Int) := by omega
  have h24n : (24 : Int) ≤ (n : Int) := by omega
  have hnc : (n : Int) ≤ (c : Int) := by omega
  by_cases hc24 : c = 24
  · have hd : xs.drop 24 = [] := List.drop_eq_nil_of_le (by omega)
    have hl24 : Hid ((xs.drop 24).length = n - 24) := by show _ = _; rw [List.length_drop, hl]
    have H24 : Hid (Reads w w.heap.size 1 (some ad) (n - 24) (u8s (xs.drop 24))) := by
      have : Reads w w.heap.size 1 (some ad) (n - 24) [] := ⟨by simp; omega, fun h => absurd h (by omega)⟩
      show Reads _ _ _ _ _ _
      rw [hd]; exact this
    clear hd hx
    go_enter Try.func43, Try.ntmps43
    go_wp2
    refine wp_region_w [(0, true), (1, true), (3, true), (4, true), (6, true), (7, true), (2, false), (5, false), (8, false), (9, true)] (by kernel_rfl) (fun _ d _ _ _ h => by cases d <;> exact h) ?_
    simp only [List.map_cons, List.map_nil, nthOp_zero, nthOp_succ]
    refine wpW_take (by rfl) (by intro W; go_simp; try with_reducible rfl) ?_
    refine wpW_take (by rfl) (by intro W; go_simp; try with_reducible rfl) ?_
    refine wpW_take (by rfl) (by intro W; go_simp; try with_reducible rfl) ?_
    refine wpW_take (by rfl) (by intro W; go_simp; try with_reducible rfl) ?_
    refine wpW_take (by rfl) (by intro W; go_simp; try with_reducible rfl) ?_
    refine wpW_take (by rfl) (by intro W; go_simp; try with_reducible rfl) ?_
    refine wpW_do fun K3 hK3 => ?_
    have HO : Hid (OwnB w ((w.alloc (.cells (madeCells #[Value.int .u8 0] n) 5)).drew) (.slice (some ⟨w.heap.size, 0, none⟩) 0 n) [] ∧ Reads (w.alloc (.cells (madeCells #[Value.int .u8 0] n) 5)).drew w.heap.size 1 (some ad) 16 (u8s (xs.take 16)) ∧ Reads (w.alloc (.cells (madeCells #[Value.int .u8 0] n) 5)).drew w.heap.size 1 (some ad) (n - 24) (u8s (xs.drop 24))) := ⟨⟨(hown0 w).out, ((Below.refl _ _).alloc (Nat.le_refl _) _).drew⟩, H16.out.alloc (Nat.le_refl _) _, H24.out.alloc (Nat.le_refl _) _⟩
    go_wp2
    refine hK3.out _ _ ?_
    clear hK3 K3 hmk hown0 H16 H24
    generalize (w.alloc (.cells (madeCells #[Value.int .u8 0] n) 5)).drew = w3 at *
    refine wpW_do fun K4 hK4 => ?_
    go_wp2_with (at_builtin; refine wpList_app el_u8 rfl (.tmp 5) (.tmp 7) rfl HO.out.1.1 rfl HO.out.2.1 rfl u8s_one (by simp only [maxLen, List.length_nil]; omega) (by simp only [List.length_nil]; omega) HO.out.1.2.size ?_; intro v4 w4 ho4 hb4 _ _; have H4 := Lib.hid (HO.out.1.app rfl hl16.out ho4 hb4); have H4b := Lib.hid hb4; clear ho4 hb4)
    refine hK4.out _ _ ?_
    clear hK4 K4
    rw [List.nil_append] at H4
    have H24b := Lib.hid (HO.out.2.2.below H4b.out)
    refine wpW_do fun K5 hK5 => ?_
    go_wp2_with (at_builtin; refine wpList_app el_u8 rfl (.tmp 8) (.tmp 10) rfl H4.out.1 rfl H24b.out rfl u8s_one (by simp only [maxLen, hl16.out]; omega) (by simp only [hl16.out]; omega) H4.out.2.size ?_; intro v5 w5 ho5 hb5 _ _; have H5 := Lib.hid (H4.out.app rfl hl24.out ho5 hb5); clear ho5 hb5)
    refine hK5.out _ _ ?_
    clear hK5 K5
    refine wpW_take (by rfl) (by intro W; go_simp; try with_reducible rfl) ?_
    refine wpW_nil ?_
    go_simp
    go_wp2
    go_ret
    exact ⟨_, rfl, H5.out⟩
  · have hl24 : Hid ((xs.drop 24).length = n - 24) := by show _ = _; rw [List.length_drop, hl]
    have H24 : Hid (Reads w w.heap.size 1 (some ⟨ad.block, ad.off + 24, none⟩) (n - 24) (u8s (xs.drop 24))) := hx.u8cutc h24 (by omega)
    clear hx
    go_enter Try.func43, Try.ntmps43
    go_wp2
    refine wp_region_w [(0, true), (1, true), (3, true), (4, true), (6, true), (7, true), (2, false), (5, false), (8, false), (9, true)] (by kernel_rfl) (fun _ d _ _ _ h => by cases d <;> exact h) ?_
    simp only [List.map_cons, List.map_nil, nthOp_zero, nthOp_succ]
    refine wpW_take (by rfl) (by intro W; go_simp; try with_reducible rfl) ?_
    refine wpW_take (by rfl) (by intro W; go_simp; try with_reducible rfl) ?_
    refine wpW_take (by rfl) (by intro W; go_simp; try with_reducible rfl) ?_
    refine wpW_take (by rfl) (by intro W; go_simp; try with_reducible rfl) ?_
    refine wpW_take (by rfl) (by intro W; go_simp; try with_reducible rfl) ?_
    refine wpW_take (by rfl) (by intro W; go_simp; try with_reducible rfl) ?_
    refine wpW_do fun K3 hK3 => ?_
    have HO : Hid (OwnB w ((w.alloc (.cells (madeCells #[Value.int .u8 0] n) 5)).drew) (.slice (some ⟨w.heap.size, 0, none⟩) 0 n) [] ∧ Reads (w.alloc (.cells (madeCells #[Value.int .u8 0] n) 5)).drew w.heap.size 1 (some ad) 16 (u8s (xs.take 16)) ∧ Reads (w.alloc (.cells (madeCells #[Value.int .u8 0] n) 5)).drew w.heap.size 1 (some ⟨ad.block, ad.off + 24, none⟩) (n - 24) (u8s (xs.drop 24))) := ⟨⟨(hown0 w).out, ((Below.refl _ _).alloc (Nat.le_refl _) _).drew⟩, H16.out.alloc (Nat.le_refl _) _, H24.out.alloc (Nat.le_refl _) _⟩
    go_wp2
    refine hK3.out _ _ ?_
    clear hK3 K3 hmk hown0 H16 H24
    generalize (w.alloc (.cells (madeCells #[Value.int .u8 0] n) 5)).drew = w3 at *
    refine wpW_do fun K4 hK4 => ?_
    go_wp2_with (at_builtin; refine wpList_app el_u8 rfl (.tmp 5) (.tmp 7) rfl HO.out.1.1 rfl HO.out.2.1 rfl u8s_one (by simp only [maxLen, List.length_nil]; omega) (by simp only [List.length_nil]; omega) HO.out.1.2.size ?_; intro v4 w4 ho4 hb4 _ _; have H4 := Lib.hid (HO.out.1.app rfl hl16.out ho4 hb4); have H4b := Lib.hid hb4; clear ho4 hb4)
    refine hK4.out _ _ ?_
    clear hK4 K4
    rw [List.nil_append] at H4
    have H24b := Lib.hid (HO.out.2.2.below H4b.out)
    refine wpW_do fun K5 hK5 => ?_
    go_wp2_with (at_builtin; refine wpList_app el_u8 rfl (.tmp 8) (.tmp 10) rfl H4.out.1 rfl H24b.out rfl u8s_one (by simp only [maxLen, hl16.out]; omega) (by simp only [hl16.out]; omega) H4.out.2.size ?_; intro v5 w5 ho5 hb5 _ _; have H5 := Lib.hid (H4.out.app rfl hl24.out ho5 hb5); clear ho5 hb5)
    refine hK5.out _ _ ?_
    clear hK5 K5
    refine wpW_take (by rfl) (by intro W; go_simp; try with_reducible rfl) ?_
    refine wpW_nil ?_
    go_simp
    go_wp2
    go_ret
    exact ⟨_, rfl, H5.out⟩
def sumOk (xs : List Int) : Bool := foldS (ws true xs) == 65535
def pkRight (xs : List Int) : Bool := decide ((pkLen xs).2 = 0) && sumOk (sumd (xs.take (pkLen xs).1.toNat))
theorem pkLen_ok {xs : List Int} (h : (pkLen xs).2 = 0) : 24 ≤ (pkLen xs).1 ∧ (pkLen xs).1 ≤ xs.length := by
  unfold pkLen at h ⊢
  split at h
  · cases h
  · split at h
    · cases h
    · split at h
      · cases h
      · split at h
        · cases h
        · rename_i h1 h2 h3 h4
          rw [if_neg h1, if_neg h2, if_neg h3, if_neg h4]
          simp only
          omega
set_option maxHeartbeats 1000000 in
theorem pright_any (A : Option Addr) (n c : Nat) (xs : List Int) (w : World) (hx : Reads w w.heap.size 1 A n (u8s xs)) (ho : Oct xs) (hc : n ≤ c) (hm : c ≤ 9223372036854775807) (hn : n ≤ 1099511627776) :
    Calls Try.prog 18 #[.slice A n c] w fun e w' => e = .returned (.bool (pkRight xs)) ∧ Below w.heap.size w w' := by
  have hl := hx.u8len
  have HL := Lib.hid (length_any A n c xs w w.heap.size hx ho hc hm)
  have HX := Lib.hid hx
  have HO := Lib.hid ho
  have hp : Hid (pkRight xs = (decide ((pkLen xs).2 = 0) && sumOk (sumd (xs.take (pkLen xs).1.toNat)))) := rfl
  have hok := fun h => pkLen_ok (xs := xs) h
  clear hx ho
  generalize pkLen xs = p at *
  obtain ⟨N, e⟩ := p
  simp only at hp hok
  by_cases h0 : e = 0
  · subst h0
    obtain ⟨h1, h2⟩ := hok rfl
    obtain ⟨m, rfl⟩ : ∃ m : Nat, N = m := ⟨N.toNat, by omega⟩
    rw [Int.toNat_natCast] at hp
    have hmn : m ≤ n := by omega
    have hmc : (m : Int) ≤ (c : Int) := by omega
    have hlm : (xs.take m).length = m := by rw [List.length_take]; omega
    have h24 : 24 ≤ m := by omega
    clear hok h1 h2
    go_enter Try.func18, Try.ntmps18
    go_wp2_with (first
      | (go_at_call 15; refine HL.out.mono ?_; rintro e w1 ⟨rfl, d, rfl⟩; have HM : Hid (Reads (w.drewN d) (w.drewN d).heap.size 1 A m (u8s (xs.take m))) := HX.out.u8pre hmn; clear HL)
      | (go_at_call 43; refine (summed_any A m c (xs.take m) _ HM.out h24 (by omega) hm (by omega)).mono ?_; rintro e w2 ⟨v, rfl, hv⟩; have HV := Lib.hid hv; obtain ⟨A2, c2, hs⟩ := hv.shape; subst hs; clear hv)
      | (go_at_call 64; refine (right_any A2 _ c2 (sumd (xs.take m)) w2 w2.heap.size (HV.out.reads rfl) (HO.out.take m).sumd (OwnB.caps HV.out rfl).1 (OwnB.caps HV.out rfl).2).mono ?_; rintro e w3 ⟨rfl, d2, rfl⟩))
    go_ret
    refine ⟨?_, below_drewN (below_drewN_left HV.out.2) _⟩
    rw [hp.out]
    simp [sumOk]
  · have h0' : (e == 0) = false := by simpa using h0
    have hz : Hid (pkRight xs = false) := by show _ = _; rw [hp.out]; simp [h0]
    clear hok hp
    go_enter Try.func18, Try.ntmps18
    go_wp2_with (go_at_call 15; refine HL.out.mono ?_; rintro e w1 ⟨rfl, d, rfl⟩; clear HL)
    go_ret
    exact ⟨by rw [hz.out]; rfl, below_drewN (Below.refl _ _) _⟩
def wholeOf (xs : List Int) (N : Int) : Int := if (xs.length : Int) ≠ N then 22 else if pkRight xs then 0 else 23
end Go.Proofs.Ytbkejlalbjomkaa
