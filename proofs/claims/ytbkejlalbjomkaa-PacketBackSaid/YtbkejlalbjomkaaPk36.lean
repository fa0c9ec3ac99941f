/-
  The walk of PacketBack. Printed by gen_pk36.py.
-/
import Derived.Test.YtbkejlalbjomkaaPk35
namespace Go.Proofs.Ytbkejlalbjomkaa
set_option linter.unusedVariables false
open Go.RowKit

set_option maxRecDepth 100000 in
theorem bytes_arg {H : Type} {enc : TypeId × Value → H} {w : World} {r : Reach} {b : Nat} {held : Bool} {v : Value} {d : DataW H} {p : List MemPlace}
    (hv : Value.okWide Try.prog w r b 39 v) (h : DataW.Trod enc Try.prog w 0 (fun _ => true) held 39 v d p) :
    ∃ (A : Option Addr) (n c : Nat) (zs : List Int), v = .slice A n c ∧ Reads w w.heap.size 1 A n (u8s zs) ∧ Oct zs ∧ n ≤ c ∧ c ≤ 9223372036854775807 := by
  obtain ⟨A, n, c, rfl⟩ := Go.WideShapes.okWide_slice Try.underlying39 hv
  obtain ⟨fuel, hf⟩ := h
  obtain ⟨A', n', c', zs, e, ⟨h1, h2, h3⟩, _⟩ := bytes_open Try.underlying39 Try.underlying5 (by kernel_rfl) (by kernel_rfl) hf
  exact ⟨A', n', c', zs, e, h1, h2, h3⟩
def BkI (w : World) (g4 : Nat) (a : Au) (gb : Nat) (cap : Nat) (bs : List Int) (m : Nat) (iv : Value) (W : World) : Prop :=
  ∃ i : Nat, iv = .int .i64 i ∧ i ≤ m ∧ Hid (Blk W g4 44 a.C) ∧ Hid (Row W gb 5 cap (u8s bs)) ∧ Hid (Below w.heap.size w W)
set_option maxRecDepth 100000 in
set_option maxHeartbeats 16000000 in
theorem back_walk (A : Option Addr) (n c : Nat) (xs : List Int) (w : World) (hx : Reads w w.heap.size 1 A n (u8s xs)) (ho : Oct xs) (hc : n ≤ c) (hm : c ≤ 9223372036854775807) :
    Calls Try.prog 4 #[.slice A n c] w fun e w' => GdOk w w' e := by
  have hxl := hx.u8len
  have HX := Lib.hid hx
  have HO := Lib.hid ho
  clear hx ho
  by_cases hbig : 65536 < n
  · have d0 : decide ((65536 : Int) < (n : Int)) = true := decide_eq_true (by omega)
    go_enter Try.func4, Try.ntmps4
    go_wp2_with fail
    refine (lives_any w).mono ?_
    rintro e wl ⟨rfl, hbl2⟩
    go_wp2_with fail
    go_ret
    exact ⟨rfl, hbl2⟩
  have d0 : decide ((65536 : Int) < (n : Int)) = false := decide_eq_false (by omega)
  go_enter Try.func4, Try.ntmps4
  go_wp2_with fail
  refine (copyBytes_any A n c xs w HX.out (by omega)).mono ?_
  rintro e w1 ⟨v, rfl, hown, hb1⟩
  obtain ⟨A1, c1, rfl, hc1, hcm1, hr1⟩ := own_shape_n hown
  rw [hxl] at hc1 hr1 ⊢
  have HB := Lib.hid hb1
  have HR1 := Lib.hid hr1
  clear hown hb1 hr1
  go_wp2_with fail
  refine (pdecode_any A1 n c1 xs w1 HR1.out HO.out hc1 hcm1 (by omega)).mono ?_
  rintro e w2 (⟨hno, ⟨k, hk0, rfl⟩, hb2⟩ | ⟨hdk, p, rfl, hy, hpis, hb2⟩)
  · replace HB := Lib.hid (below_then HB.out hb2)
    have HX3 : Hid (Blk ((w2.alloc (.cells #[.int .u8 0, .int .u32 0, .int .u32 0, .int .u32 0, .int .u16 0, .int .u8 0, .int .u8 0, .int .u32 0, .int .u32 0, .int .u32 0, .slice none 0 0, .int .u16 0, .int .u8 0, .int .u8 0, .int .u32 0, .slice none 0 0, .slice none 0 0, .slice none 0 0, .slice none 0 0] 33)).alloc (.cells #[.int .u16 0, .int .u8 0, .int .u8 0, .int .u8 0, .int .u8 0, .int .u8 0, .int .u8 0, .int .u8 0, .int .u8 0] 44)) w2.heap.size 33 #[.int .u8 0, .int .u32 0, .int .u32 0, .int .u32 0, .int .u16 0, .int .u8 0, .int .u8 0, .int .u32 0, .int .u32 0, .int .u32 0, .slice none 0 0, .int .u16 0, .int .u8 0, .int .u8 0, .int .u32 0, .slice none 0 0, .slice none 0 0, .slice none 0 0, .slice none 0 0]) := Lib.hid ((Blk.new _ _ _).alloc _)
    have HX4 : Hid (Blk ((w2.alloc (.cells #[.int .u8 0, .int .u32 0, .int .u32 0, .int .u32 0, .int .u16 0, .int .u8 0, .int .u8 0, .int .u32 0, .int .u32 0, .int .u32 0, .slice none 0 0, .int .u16 0, .int .u8 0, .int .u8 0, .int .u32 0, .slice none 0 0, .slice none 0 0, .slice none 0 0, .slice none 0 0] 33)).alloc (.cells #[.int .u16 0, .int .u8 0, .int .u8 0, .int .u8 0, .int .u8 0, .int .u8 0, .int .u8 0, .int .u8 0, .int .u8 0] 44)) (w2.heap.size + 1) 44 #[.int .u16 0, .int .u8 0, .int .u8 0, .int .u8 0, .int .u8 0, .int .u8 0, .int .u8 0, .int .u8 0, .int .u8 0]) := Lib.hid (new_at _ _ _)
    have HX5 := Lib.hid ((HX4.out).setRow_far (cs' := #[.int .u8 0, .int .u32 0, .int .u32 0, .int .u32 0, .int .u16 0, .int .u8 0, .int .u8 0, .int .u32 0, .int .u32 0, .int .u32 0, .slice none 0 0, .int .u16 0, .int .u8 0, .int .u8 0, .int .u32 0, .slice none 0 0, .slice none 0 0, .slice none 0 0, .slice none 0 0]) (by omega : w2.heap.size + 1 ≠ w2.heap.size))
    have HX6 : Hid (Blk ((((w2.alloc (.cells #[.int .u8 0, .int .u32 0, .int .u32 0, .int .u32 0, .int .u16 0, .int .u8 0, .int .u8 0, .int .u32 0, .int .u32 0, .int .u32 0, .slice none 0 0, .int .u16 0, .int .u8 0, .int .u8 0, .int .u32 0, .slice none 0 0, .slice none 0 0, .slice none 0 0, .slice none 0 0] 33)).alloc (.cells #[.int .u16 0, .int .u8 0, .int .u8 0, .int .u8 0, .int .u8 0, .int .u8 0, .int .u8 0, .int .u8 0, .int .u8 0] 44)).setRow w2.heap.size #[.int .u8 0, .int .u32 0, .int .u32 0, .int .u32 0, .int .u16 0, .int .u8 0, .int .u8 0, .int .u32 0, .int .u32 0, .int .u32 0, .slice none 0 0, .int .u16 0, .int .u8 0, .int .u8 0, .int .u32 0, .slice none 0 0, .slice none 0 0, .slice none 0 0, .slice none 0 0]).setRow (w2.heap.size + 1) #[.int .u16 0, .int .u8 0, .int .u8 0, .int .u8 0, .int .u8 0, .int .u8 0, .int .u8 0, .int .u8 0, .int .u8 0]) w2.heap.size 33 #[.int .u8 0, .int .u32 0, .int .u32 0, .int .u32 0, .int .u16 0, .int .u8 0, .int .u8 0, .int .u32 0, .int .u32 0, .int .u32 0, .slice none 0 0, .int .u16 0, .int .u8 0, .int .u8 0, .int .u32 0, .slice none 0 0, .slice none 0 0, .slice none 0 0, .slice none 0 0]) := Lib.hid ((Blk.setRow HX3.out #[.int .u8 0, .int .u32 0, .int .u32 0, .int .u32 0, .int .u16 0, .int .u8 0, .int .u8 0, .int .u32 0, .int .u32 0, .int .u32 0, .slice none 0 0, .int .u16 0, .int .u8 0, .int .u8 0, .int .u32 0, .slice none 0 0, .slice none 0 0, .slice none 0 0, .slice none 0 0]).setRow_far (by omega) _)
    have HX7 : Hid (Blk ((((w2.alloc (.cells #[.int .u8 0, .int .u32 0, .int .u32 0, .int .u32 0, .int .u16 0, .int .u8 0, .int .u8 0, .int .u32 0, .int .u32 0, .int .u32 0, .slice none 0 0, .int .u16 0, .int .u8 0, .int .u8 0, .int .u32 0, .slice none 0 0, .slice none 0 0, .slice none 0 0, .slice none 0 0] 33)).alloc (.cells #[.int .u16 0, .int .u8 0, .int .u8 0, .int .u8 0, .int .u8 0, .int .u8 0, .int .u8 0, .int .u8 0, .int .u8 0] 44)).setRow w2.heap.size #[.int .u8 0, .int .u32 0, .int .u32 0, .int .u32 0, .int .u16 0, .int .u8 0, .int .u8 0, .int .u32 0, .int .u32 0, .int .u32 0, .slice none 0 0, .int .u16 0, .int .u8 0, .int .u8 0, .int .u32 0, .slice none 0 0, .slice none 0 0, .slice none 0 0, .slice none 0 0]).setRow (w2.heap.size + 1) #[.int .u16 0, .int .u8 0, .int .u8 0, .int .u8 0, .int .u8 0, .int .u8 0, .int .u8 0, .int .u8 0, .int .u8 0]) (w2.heap.size + 1) 44 #[.int .u16 0, .int .u8 0, .int .u8 0, .int .u8 0, .int .u8 0, .int .u8 0, .int .u8 0, .int .u8 0, .int .u8 0]) := Lib.hid (Blk.setRow HX5.out _)
    have HB7 : Hid (Below w2.heap.size w2 ((((w2.alloc (.cells #[.int .u8 0, .int .u32 0, .int .u32 0, .int .u32 0, .int .u16 0, .int .u8 0, .int .u8 0, .int .u32 0, .int .u32 0, .int .u32 0, .slice none 0 0, .int .u16 0, .int .u8 0, .int .u8 0, .int .u32 0, .slice none 0 0, .slice none 0 0, .slice none 0 0, .slice none 0 0] 33)).alloc (.cells #[.int .u16 0, .int .u8 0, .int .u8 0, .int .u8 0, .int .u8 0, .int .u8 0, .int .u8 0, .int .u8 0, .int .u8 0] 44)).setRow w2.heap.size #[.int .u8 0, .int .u32 0, .int .u32 0, .int .u32 0, .int .u16 0, .int .u8 0, .int .u8 0, .int .u32 0, .int .u32 0, .int .u32 0, .slice none 0 0, .int .u16 0, .int .u8 0, .int .u8 0, .int .u32 0, .slice none 0 0, .slice none 0 0, .slice none 0 0, .slice none 0 0]).setRow (w2.heap.size + 1) #[.int .u16 0, .int .u8 0, .int .u8 0, .int .u8 0, .int .u8 0, .int .u8 0, .int .u8 0, .int .u8 0, .int .u8 0])) := Lib.hid (below_setRow (below_setRow (below_two _ _ _) (Nat.le_refl _) _) (by omega) _)
    have hkb : (k != 0) = true := by simpa using hk0
    clear hno hk0 hb2 HR1
    go_wp2_with (first | (refine wpList_store_row rfl 33 _ _ rfl w2.heap.size #[.int .u8 0, .int .u32 0, .int .u32 0, .int .u32 0, .int .u16 0, .int .u8 0, .int .u8 0, .int .u32 0, .int .u32 0, .int .u32 0, .slice none 0 0, .int .u16 0, .int .u8 0, .int .u8 0, .int .u32 0, .slice none 0 0, .slice none 0 0, .slice none 0 0, .slice none 0 0] rfl rfl 33 _ HX3.out info_pk rfl (by simp [Value.oneCell']) ?_) | (refine wpList_store_row rfl 44 _ _ rfl (w2.heap.size + 1) #[.int .u16 0, .int .u8 0, .int .u8 0, .int .u8 0, .int .u8 0, .int .u8 0, .int .u8 0, .int .u8 0, .int .u8 0] rfl rfl 44 _ HX5.out info_au rfl (by simp [Value.oneCell']) ?_) | (refine wpList_load_row rfl 33 _ rfl w2.heap.size rfl 33 #[.int .u8 0, .int .u32 0, .int .u32 0, .int .u32 0, .int .u16 0, .int .u8 0, .int .u8 0, .int .u32 0, .int .u32 0, .int .u32 0, .slice none 0 0, .int .u16 0, .int .u8 0, .int .u8 0, .int .u32 0, .slice none 0 0, .slice none 0 0, .slice none 0 0, .slice none 0 0] (0, 0) _ HX6.out Try.underlying33 rfl info_pk ?_))
    clear HX3 HX4 HX5
    generalize ((((w2.alloc (.cells #[.int .u8 0, .int .u32 0, .int .u32 0, .int .u32 0, .int .u16 0, .int .u8 0, .int .u8 0, .int .u32 0, .int .u32 0, .int .u32 0, .slice none 0 0, .int .u16 0, .int .u8 0, .int .u8 0, .int .u32 0, .slice none 0 0, .slice none 0 0, .slice none 0 0, .slice none 0 0] 33)).alloc (.cells #[.int .u16 0, .int .u8 0, .int .u8 0, .int .u8 0, .int .u8 0, .int .u8 0, .int .u8 0, .int .u8 0, .int .u8 0] 44)).setRow w2.heap.size #[.int .u8 0, .int .u32 0, .int .u32 0, .int .u32 0, .int .u16 0, .int .u8 0, .int .u8 0, .int .u32 0, .int .u32 0, .int .u32 0, .slice none 0 0, .int .u16 0, .int .u8 0, .int .u8 0, .int .u32 0, .slice none 0 0, .slice none 0 0, .slice none 0 0, .slice none 0 0]).setRow (w2.heap.size + 1) #[.int .u16 0, .int .u8 0, .int .u8 0, .int .u8 0, .int .u8 0, .int .u8 0, .int .u8 0, .int .u8 0, .int .u8 0]) = w3 at *
    generalize w2.heap.size + 1 = g4 at *
    replace HB := Lib.hid (below_then HB.out HB7.out)
    clear HB7 HX6
    refine Calls.mono (eqPacket_any (p0 0 0 0) (p0 0 0 0) w3 (p0_rd 0 0 0 w3 (by decide) (by decide) (by decide)) (p0_rd 0 0 0 w3 (by decide) (by decide) (by decide)) (p0_few 0 0 0) (p0_few 0 0 0)) ?_
    rintro e w4 ⟨b1, rfl, hbb1, hb4⟩
    obtain rfl : b1 = true := hbb1.2 ⟨rfl, rfl, rfl, ⟨rfl, rfl, rfl, rfl, rfl, rfl, rfl, rfl⟩, ⟨rfl, rfl, rfl, rfl, rfl⟩, rfl, rfl, rfl⟩
    replace HB := Lib.hid (below_then HB.out hb4)
    replace HX7 := Lib.hid (HX7.out.later hb4)
    have e0 := HX7.out.cell 0
    have e1 := HX7.out.cell 1
    have e2 := HX7.out.cell 2
    have e3 := HX7.out.cell 3
    have e4 := HX7.out.cell 4
    have e5 := HX7.out.cell 5
    have e6 := HX7.out.cell 6
    have e7 := HX7.out.cell 7
    have e8 := HX7.out.cell 8
    simp at e0 e1 e2 e3 e4 e5 e6 e7 e8
    have hza := zA_eq
    clear hbb1 hb4
    go_wp2_with fail
    refine (lives_any w4).mono ?_
    rintro e wl ⟨rfl, hbl2⟩
    replace HB := Lib.hid (below_then HB.out hbl2)
    clear e0 e1 e2 e3 e4 e5 e6 e7 e8 hbl2
    go_wp2_with fail
    go_ret
    exact ⟨rfl, HB.out⟩
  have HDk := Lib.hid hdk
  have hn1 : ∀ s ∈ p.ss, s.B.length = s.n := fun s hs => (hy.s.ok s hs).rd.bl
  have ho2 : Oct (pkB xs) := HO.out.take _
  have hl24 := pkLen_ok hdk.len
  have hbl := pkB_len hdk.len
  have hty := pkLen_type hdk.len
  have hrng := hpis.rng ho2 hdk.part (by omega) (be4 HO.out _) (be4 HO.out _)
  have hfew := hpis.few ho2 (by omega) hn1
  have HEn := Lib.hid (dec_enc HO.out hdk hpis hn1)
  have HBk := Lib.hid (fun (i : Nat) (hi : (i : Int) < (pkLen xs).1) => back_at HO.out hdk hpis hn1 hi)
  have HQ := Lib.hid (And.intro (hy.rd hrng) hfew)
  have hao : (auAt xs).ok := by
    refine ⟨?_, ?_⟩
    · show 0 ≤ kdAt xs ∧ kdAt xs ≤ 65535
      exact be2 HO.out 14
    · have h8 : ((xs.drop 16).take 8).length = 8 := by rw [List.length_take, List.length_drop]; omega
      obtain ⟨d0, d1, d2, d3, d4, d5, d6, d7, hd8⟩ := take8_of h8
      have : (auAt xs).data = (xs.drop 16).take 8 := by unfold auAt; rw [hd8]; rfl
      rw [this]
      exact (HO.out.drop 16).take 8
  have HAll := Lib.hid (show (auAt xs).k ≠ 2 → (pkLen xs).1 = xs.length from hdk.all)
  obtain ⟨a, hau⟩ : ∃ a, auAt xs = a := ⟨_, rfl⟩
  rw [hau] at HEn HBk HAll hao ⊢
  have HAo := Lib.hid hao
  obtain ⟨m, hm2⟩ : ∃ m : Nat, (pkLen xs).1 = m := ⟨(pkLen xs).1.toNat, by omega⟩
  rw [hm2] at HEn HBk HAll hl24
  have hm24 : 24 ≤ m := by omega
  have hmn : m ≤ n := by omega
  replace HB := Lib.hid (below_then HB.out hb2)
  have HX3 : Hid (Blk ((w2.alloc (.cells #[.int .u8 0, .int .u32 0, .int .u32 0, .int .u32 0, .int .u16 0, .int .u8 0, .int .u8 0, .int .u32 0, .int .u32 0, .int .u32 0, .slice none 0 0, .int .u16 0, .int .u8 0, .int .u8 0, .int .u32 0, .slice none 0 0, .slice none 0 0, .slice none 0 0, .slice none 0 0] 33)).alloc (.cells #[.int .u16 0, .int .u8 0, .int .u8 0, .int .u8 0, .int .u8 0, .int .u8 0, .int .u8 0, .int .u8 0, .int .u8 0] 44)) w2.heap.size 33 #[.int .u8 0, .int .u32 0, .int .u32 0, .int .u32 0, .int .u16 0, .int .u8 0, .int .u8 0, .int .u32 0, .int .u32 0, .int .u32 0, .slice none 0 0, .int .u16 0, .int .u8 0, .int .u8 0, .int .u32 0, .slice none 0 0, .slice none 0 0, .slice none 0 0, .slice none 0 0]) := Lib.hid ((Blk.new _ _ _).alloc _)
  have HX4 : Hid (Blk ((w2.alloc (.cells #[.int .u8 0, .int .u32 0, .int .u32 0, .int .u32 0, .int .u16 0, .int .u8 0, .int .u8 0, .int .u32 0, .int .u32 0, .int .u32 0, .slice none 0 0, .int .u16 0, .int .u8 0, .int .u8 0, .int .u32 0, .slice none 0 0, .slice none 0 0, .slice none 0 0, .slice none 0 0] 33)).alloc (.cells #[.int .u16 0, .int .u8 0, .int .u8 0, .int .u8 0, .int .u8 0, .int .u8 0, .int .u8 0, .int .u8 0, .int .u8 0] 44)) (w2.heap.size + 1) 44 #[.int .u16 0, .int .u8 0, .int .u8 0, .int .u8 0, .int .u8 0, .int .u8 0, .int .u8 0, .int .u8 0, .int .u8 0]) := Lib.hid (new_at _ _ _)
  have HX5 := Lib.hid ((HX4.out).setRow_far (cs' := p.C) (by omega : w2.heap.size + 1 ≠ w2.heap.size))
  have HX6 : Hid (Blk ((((w2.alloc (.cells #[.int .u8 0, .int .u32 0, .int .u32 0, .int .u32 0, .int .u16 0, .int .u8 0, .int .u8 0, .int .u32 0, .int .u32 0, .int .u32 0, .slice none 0 0, .int .u16 0, .int .u8 0, .int .u8 0, .int .u32 0, .slice none 0 0, .slice none 0 0, .slice none 0 0, .slice none 0 0] 33)).alloc (.cells #[.int .u16 0, .int .u8 0, .int .u8 0, .int .u8 0, .int .u8 0, .int .u8 0, .int .u8 0, .int .u8 0, .int .u8 0] 44)).setRow w2.heap.size p.C).setRow (w2.heap.size + 1) a.C) w2.heap.size 33 p.C) := Lib.hid ((Blk.setRow HX3.out p.C).setRow_far (by omega) _)
  have HX7 : Hid (Blk ((((w2.alloc (.cells #[.int .u8 0, .int .u32 0, .int .u32 0, .int .u32 0, .int .u16 0, .int .u8 0, .int .u8 0, .int .u32 0, .int .u32 0, .int .u32 0, .slice none 0 0, .int .u16 0, .int .u8 0, .int .u8 0, .int .u32 0, .slice none 0 0, .slice none 0 0, .slice none 0 0, .slice none 0 0] 33)).alloc (.cells #[.int .u16 0, .int .u8 0, .int .u8 0, .int .u8 0, .int .u8 0, .int .u8 0, .int .u8 0, .int .u8 0, .int .u8 0] 44)).setRow w2.heap.size p.C).setRow (w2.heap.size + 1) a.C) (w2.heap.size + 1) 44 a.C) := Lib.hid (Blk.setRow HX5.out _)
  have HB7 : Hid (Below w2.heap.size w2 ((((w2.alloc (.cells #[.int .u8 0, .int .u32 0, .int .u32 0, .int .u32 0, .int .u16 0, .int .u8 0, .int .u8 0, .int .u32 0, .int .u32 0, .int .u32 0, .slice none 0 0, .int .u16 0, .int .u8 0, .int .u8 0, .int .u32 0, .slice none 0 0, .slice none 0 0, .slice none 0 0, .slice none 0 0] 33)).alloc (.cells #[.int .u16 0, .int .u8 0, .int .u8 0, .int .u8 0, .int .u8 0, .int .u8 0, .int .u8 0, .int .u8 0, .int .u8 0] 44)).setRow w2.heap.size p.C).setRow (w2.heap.size + 1) a.C)) := Lib.hid (below_setRow (below_setRow (below_two _ _ _) (Nat.le_refl _) _) (by omega) _)
  clear hdk hpis hn1 ho2 hbl hty hrng hfew hy hb2 HR1 hao hau hm2 hl24 HDk
  go_wp2_with (first | (refine wpList_store_row rfl 33 _ _ rfl w2.heap.size p.C rfl rfl 33 _ HX3.out info_pk rfl (one_PA p) ?_) | (refine wpList_store_row rfl 44 _ _ rfl (w2.heap.size + 1) a.C rfl rfl 44 _ HX5.out info_au rfl (one_Au a) ?_))
  clear HX3 HX4 HX5
  replace HB := Lib.hid ((below_then HB.out HB7.out).drew)
  replace HQ := Lib.hid (And.intro ((HQ.out.1.later HB7.out).later (Below.refl _ _).drew) HQ.out.2)
  replace HX6 := Lib.hid (HX6.out.later (Below.refl _ _).drew)
  replace HX7 := Lib.hid (HX7.out.later (Below.refl _ _).drew)
  have HS : Hid ((fun W : World => Blk W w2.heap.size 33 p.C ∧ Blk W (w2.heap.size + 1) 44 a.C) (((((w2.alloc (.cells #[.int .u8 0, .int .u32 0, .int .u32 0, .int .u32 0, .int .u16 0, .int .u8 0, .int .u8 0, .int .u32 0, .int .u32 0, .int .u32 0, .slice none 0 0, .int .u16 0, .int .u8 0, .int .u8 0, .int .u32 0, .slice none 0 0, .slice none 0 0, .slice none 0 0, .slice none 0 0] 33)).alloc (.cells #[.int .u16 0, .int .u8 0, .int .u8 0, .int .u8 0, .int .u8 0, .int .u8 0, .int .u8 0, .int .u8 0, .int .u8 0] 44)).setRow w2.heap.size p.C).setRow (w2.heap.size + 1) a.C)).drew) := Lib.hid ⟨HX6.out, HX7.out⟩
  refine wp_region_s (fun W : World => Blk W w2.heap.size 33 p.C ∧ Blk W (w2.heap.size + 1) 44 a.C) [(0, true), (2, true), (1, false), (3, false), (4, true), (5, true), (6, true), (7, true), (8, true)] (by kernel_rfl) (fun _ d _ _ _ h => by cases d <;> exact h) ?_
  simp only [List.map_cons, List.map_nil, nthOp_zero, nthOp_succ]
  clear HB7
  generalize (((((w2.alloc (.cells #[.int .u8 0, .int .u32 0, .int .u32 0, .int .u32 0, .int .u16 0, .int .u8 0, .int .u8 0, .int .u32 0, .int .u32 0, .int .u32 0, .slice none 0 0, .int .u16 0, .int .u8 0, .int .u8 0, .int .u32 0, .slice none 0 0, .slice none 0 0, .slice none 0 0, .slice none 0 0] 33)).alloc (.cells #[.int .u16 0, .int .u8 0, .int .u8 0, .int .u8 0, .int .u8 0, .int .u8 0, .int .u8 0, .int .u8 0, .int .u8 0] 44)).setRow w2.heap.size p.C).setRow (w2.heap.size + 1) a.C)).drew = w3 at *
  generalize w2.heap.size + 1 = g4 at *
  generalize w2.heap.size = g3 at *
  refine wpS_take HS (by rfl) (fun W hW => exec_load_row rfl rfl hW.1 Try.underlying33 rfl info_pk) ?_
  refine wpS_take HS (by rfl) (fun W hW => exec_load_row rfl rfl hW.2 Try.underlying44 rfl info_au) ?_
  go_simp
  refine wpS_do fun K hK => ?_
  go_wp2_with fail
  refine (copyPacket_any p w3 HQ.out.1 HQ.out.2).mono ?_
  rintro e w4 ⟨q, rfl, hsame, hqy, hb4⟩
  replace HB := Lib.hid (below_then HB.out hb4)
  replace HX6 := Lib.hid (HX6.out.later hb4)
  replace HX7 := Lib.hid (HX7.out.later hb4)
  have HQ2 := Lib.hid (And.intro (hqy.rd (hsame.rng HQ.out.1.ok.rng)) (hsame.few HQ.out.2))
  have HSe := Lib.hid (hsame.enc HEn.out.1)
  clear hsame hqy hb4 HS HQ
  go_wp2_with fail
  refine hK.out _ _ ⟨HX6.out, HX7.out⟩ ?_
  clear hK K
  refine wpS_do fun K hK => ?_
  go_wp2_with fail
  refine (encode_any w4 q a HQ2.out.1 HQ2.out.2 HAo.out).mono ?_
  rintro e w5 (⟨hok, u, rfl, hown, hb5⟩ | ⟨hno, _⟩)
  rotate_left
  · exact absurd HSe.out.1 hno
  have hlq : encL q a = m := by have h1 := HSe.out.2.2; have h2 := HEn.out.2.1; omega
  rw [HSe.out.2.1, hlq] at hown
  replace HB := Lib.hid (below_then HB.out hb5)
  replace HX6 := Lib.hid (HX6.out.later hb5)
  replace HX7 := Lib.hid (HX7.out.later hb5)
  have HS : Hid ((fun W : World => Blk W g3 33 p.C ∧ Blk W g4 44 a.C) w5) := Lib.hid ⟨HX6.out, HX7.out⟩
  obtain ⟨gb, cap, rfl, hgb, hnc, hcm, hrow⟩ := Row.of_own hown (by omega)
  unfold maxLen at hcm
  have HRow := Lib.hid hrow
  clear hok hown hb5 hgb hrow hlq HQ2
  go_wp2_with fail
  refine hK.out _ _ HS.out ?_
  clear hK K
  refine wpS_take HS (by rfl) (by intro W hW; clear hW; go_simp; try with_reducible rfl) ?_
  go_simp
  refine wpS_take HS (by rfl) (by intro W hW; clear hW; go_simp; try with_reducible rfl) ?_
  refine wpS_take HS (by rfl) (by intro W hW; clear hW; go_simp; try with_reducible rfl) ?_
  go_simp
  refine wpS_take HS (by rfl) (by intro W hW; clear hW; go_simp; try with_reducible rfl) ?_
  refine wpS_take HS (by rfl) (by intro W hW; clear hW; go_simp; try with_reducible rfl) ?_
  refine wpS_nil ?_
  go_simp
  have hk0 : w5.cell? ⟨g4, 0, none⟩ = some (.int .u16 a.k) := HX7.out.cell 0
  have d1 : decide ((n : Int) < (m : Int)) = false := decide_eq_false (by omega)
  have d2 : decide ((m : Int) < 24) = false := decide_eq_false (by omega)
  have d1n : decide (n < m) = false := decide_eq_false (by omega)
  obtain ⟨bs, hbs⟩ : ∃ bs, encB p (a) = bs := ⟨_, rfl⟩
  rw [hbs] at HRow HBk
  have hbl : bs.length = m := by rw [← hbs, encB_len]; have h2 := HEn.out.2.1; omega
  have HBl := Lib.hid hbl
  clear hbs
  have key : Hid ((m : Int) = (n : Int) ∨ a.k = 2) := Lib.hid (by
    by_cases hk : a.k = 2
    · exact .inr hk
    · have := HAll.out hk
      exact .inl (by omega))
  by_cases hmn2 : m = n
  · have d3 : ((m : Int) != (n : Int)) = false := by simp; omega
    clear key
    go_wp2_with fail
    clear hk0 d1 d2 d1n HS
    go_loopw [8] (BkI w g4 a gb cap bs m) (fun iv _ => m - (intOf iv).toNat)
    case atStart => exact ⟨0, rfl, by omega, HX7, HRow, HB⟩
    case round =>
      obtain ⟨i, rfl, hi, hX7, hRow, hB⟩ := hrel
      clear HX7 HRow HB HX6
      have HX7 := hX7
      have HRow := hRow
      have HB := hB
      clear hX7 hRow hB
      by_cases him : i < m
      · have hin : i < n := by omega
        have dm : decide ((i : Int) < (m : Int)) = true := decide_eq_true (by omega)
        obtain ⟨x, hx, cx⟩ := HRow.out.u8cell (i := i) (by omega)
        obtain ⟨ad, y, rfl, _, hy, cy⟩ := (HX.out.later HB.out).u8at (k := i) (by omega)
        have hbk := HBk.out i (by omega)
        rw [hx.out, hy.out] at hbk
        have hkc : wr.cell? ⟨g4, 0, none⟩ = some (.int .u16 a.k) := HX7.out.cell 0
        go_wp2_with fail
        by_cases hxy : x = y
        · clear hbk
          subst hxy
          have e1 : (x != x) = false := by simp
          have HS : Hid ((fun W : World => W.cell? ⟨gb, i, none⟩ = some (.int .u8 x) ∧ W.cell? (ad.add i) = some (.int .u8 x) ∧ W.cell? ⟨g4, 0, none⟩ = some (.int .u16 a.k)) wr.drew) := Lib.hid ⟨cx, cy, hkc⟩
          refine wp_region_s (fun W : World => W.cell? ⟨gb, i, none⟩ = some (.int .u8 x) ∧ W.cell? (ad.add i) = some (.int .u8 x) ∧ W.cell? ⟨g4, 0, none⟩ = some (.int .u16 a.k)) [(0, true), (1, true), (2, true), (4, true), (5, true), (6, true), (3, true), (7, true), (8, true), (9, true), (10, true), (11, true), (12, true), (13, true), (14, true), (15, true), (16, false), (17, true), (18, true), (19, true), (20, true), (21, true), (22, true), (23, true), (24, true), (25, true), (26, true), (27, true)] (by kernel_rfl) (fun _ d _ _ _ h => by cases d <;> exact h) ?_
          simp only [List.map_cons, List.map_nil, nthOp_zero, nthOp_succ]
          replace HB := Lib.hid HB.out.drew
          replace HX7 := Lib.hid (HX7.out.later (Below.refl _ _).drew)
          replace HRow : Hid (Row wr.drew gb 5 cap (u8s bs)) := Lib.hid (HRow.out.drewN 1)
          generalize wr.drew = wc at *
          clear cx cy hkc
          refine wpS_take HS (by kernel_rfl) (by intro W hW; clear hW; go_simp; try with_reducible rfl) ?_
          refine wpS_take HS (by kernel_rfl) (by intro W hW; clear hW; go_simp; try with_reducible rfl) ?_
          refine wpS_take HS (by kernel_rfl) (by intro W hW; clear hW; go_simp; try with_reducible rfl) ?_
          go_simp
          refine wpS_take HS (by kernel_rfl) (by intro W hW; clear hW; go_simp; try with_reducible rfl) ?_
          refine wpS_take HS (by kernel_rfl) (by intro W hW; clear hW; go_simp; try with_reducible rfl) ?_
          refine wpS_take HS (by kernel_rfl) (by intro W hW; clear hW; go_simp; try with_reducible rfl) ?_
          go_simp
          refine wpS_take HS (by kernel_rfl) (by intro W hW; obtain ⟨hc1, hc2, hc3⟩ := hW; go_simp; try with_reducible rfl) ?_
          refine wpS_take HS (by kernel_rfl) (by intro W hW; obtain ⟨hc1, hc2, hc3⟩ := hW; go_simp; try with_reducible rfl) ?_
          refine wpS_take HS (by kernel_rfl) (by intro W hW; clear hW; go_simp; try with_reducible rfl) ?_
          go_simp
          refine wpS_take HS (by kernel_rfl) (by intro W hW; clear hW; go_simp; try with_reducible rfl) ?_
          refine wpS_skip HS (by kernel_rfl) ?_
          refine wpS_skip HS (by kernel_rfl) ?_
          refine wpS_skip HS (by kernel_rfl) ?_
          refine wpS_skip HS (by kernel_rfl) ?_
          refine wpS_skip HS (by kernel_rfl) ?_
          refine wpS_skip HS (by kernel_rfl) ?_
          go_simp
          refine wpS_do fun K hK => ?_
          go_wp2_with fail
          refine hK.out _ _ HS.out ?_
          clear hK K
          refine wpS_skip HS (by kernel_rfl) ?_
          refine wpS_skip HS (by kernel_rfl) ?_
          refine wpS_skip HS (by kernel_rfl) ?_
          refine wpS_skip HS (by kernel_rfl) ?_
          refine wpS_skip HS (by kernel_rfl) ?_
          refine wpS_skip HS (by kernel_rfl) ?_
          refine wpS_skip HS (by kernel_rfl) ?_
          refine wpS_skip HS (by kernel_rfl) ?_
          refine wpS_skip HS (by kernel_rfl) ?_
          refine wpS_skip HS (by kernel_rfl) ?_
          refine wpS_take HS (by kernel_rfl) (by intro W hW; clear hW; go_simp; try with_reducible rfl) ?_
          refine wpS_nil ?_
          go_simp
          go_wp2_with fail
          go_roundw
          case rel => exact ⟨i + 1, by go_num, by omega, HX7, HRow, HB⟩
          case measure => simp [intOf]; omega
        · have e1 : (x != y) = true := by simpa using hxy
          obtain ⟨h1213, hkk⟩ := hbk.resolve_left (fun h => hxy (Option.some.inj h))
          clear hbk
          by_cases hi12 : i = 12
          · have j12 : ((i : Int) != 12) = false := by simp; omega
            clear hi12
            by_cases hk2 : a.k = 2
            · have hkb : (a.k != 2) = false := by simpa using hk2
              clear hkk hk2
              have HS : Hid ((fun W : World => W.cell? ⟨gb, i, none⟩ = some (.int .u8 x) ∧ W.cell? (ad.add i) = some (.int .u8 y) ∧ W.cell? ⟨g4, 0, none⟩ = some (.int .u16 a.k)) wr.drew) := Lib.hid ⟨cx, cy, hkc⟩
              refine wp_region_s (fun W : World => W.cell? ⟨gb, i, none⟩ = some (.int .u8 x) ∧ W.cell? (ad.add i) = some (.int .u8 y) ∧ W.cell? ⟨g4, 0, none⟩ = some (.int .u16 a.k)) [(0, true), (1, true), (2, true), (4, true), (5, true), (6, true), (3, true), (7, true), (8, true), (9, true), (10, true), (11, true), (12, true), (13, true), (14, true), (15, true), (16, false), (17, true), (18, true), (19, true), (20, true), (21, true), (22, true), (23, true), (24, true), (25, true), (26, true), (27, true)] (by kernel_rfl) (fun _ d _ _ _ h => by cases d <;> exact h) ?_
              simp only [List.map_cons, List.map_nil, nthOp_zero, nthOp_succ]
              replace HB := Lib.hid HB.out.drew
              replace HX7 := Lib.hid (HX7.out.later (Below.refl _ _).drew)
              replace HRow : Hid (Row wr.drew gb 5 cap (u8s bs)) := Lib.hid (HRow.out.drewN 1)
              generalize wr.drew = wc at *
              clear cx cy hkc
              refine wpS_take HS (by kernel_rfl) (by intro W hW; clear hW; go_simp; try with_reducible rfl) ?_
              refine wpS_take HS (by kernel_rfl) (by intro W hW; clear hW; go_simp; try with_reducible rfl) ?_
              refine wpS_take HS (by kernel_rfl) (by intro W hW; clear hW; go_simp; try with_reducible rfl) ?_
              go_simp
              refine wpS_take HS (by kernel_rfl) (by intro W hW; clear hW; go_simp; try with_reducible rfl) ?_
              refine wpS_take HS (by kernel_rfl) (by intro W hW; clear hW; go_simp; try with_reducible rfl) ?_
              refine wpS_take HS (by kernel_rfl) (by intro W hW; clear hW; go_simp; try with_reducible rfl) ?_
              go_simp
              refine wpS_take HS (by kernel_rfl) (by intro W hW; obtain ⟨hc1, hc2, hc3⟩ := hW; go_simp; try with_reducible rfl) ?_
              refine wpS_take HS (by kernel_rfl) (by intro W hW; obtain ⟨hc1, hc2, hc3⟩ := hW; go_simp; try with_reducible rfl) ?_
              refine wpS_take HS (by kernel_rfl) (by intro W hW; clear hW; go_simp; try with_reducible rfl) ?_
              go_simp
              refine wpS_take HS (by kernel_rfl) (by intro W hW; clear hW; go_simp; try with_reducible rfl) ?_
              refine wpS_take HS (by kernel_rfl) (by intro W hW; clear hW; go_simp; try with_reducible rfl) ?_
              refine wpS_take HS (by kernel_rfl) (by intro W hW; obtain ⟨hc1, hc2, hc3⟩ := hW; go_simp; try with_reducible rfl) ?_
              go_simp
              refine wpS_take HS (by kernel_rfl) (by intro W hW; clear hW; go_simp; try with_reducible rfl) ?_
              refine wpS_take HS (by kernel_rfl) (by intro W hW; clear hW; go_simp; try with_reducible rfl) ?_
              refine wpS_skip HS (by kernel_rfl) ?_
              refine wpS_skip HS (by kernel_rfl) ?_
              go_simp
              refine wpS_do fun K hK => ?_
              go_wp2_with fail
              refine hK.out _ _ HS.out ?_
              clear hK K
              refine wpS_skip HS (by kernel_rfl) ?_
              refine wpS_take HS (by kernel_rfl) (by intro W hW; clear hW; go_simp; try with_reducible rfl) ?_
              go_simp
              refine wpS_take HS (by kernel_rfl) (by intro W hW; clear hW; go_simp; try with_reducible rfl) ?_
              refine wpS_take HS (by kernel_rfl) (by intro W hW; clear hW; go_simp; try with_reducible rfl) ?_
              refine wpS_take HS (by kernel_rfl) (by intro W hW; clear hW; go_simp; try with_reducible rfl) ?_
              go_simp
              refine wpS_take HS (by kernel_rfl) (by intro W hW; clear hW; go_simp; try with_reducible rfl) ?_
              refine wpS_skip HS (by kernel_rfl) ?_
              refine wpS_skip HS (by kernel_rfl) ?_
              refine wpS_take HS (by kernel_rfl) (by intro W hW; clear hW; go_simp; try with_reducible rfl) ?_
              refine wpS_take HS (by kernel_rfl) (by intro W hW; clear hW; go_simp; try with_reducible rfl) ?_
              go_simp
              refine wpS_take HS (by kernel_rfl) (by intro W hW; clear hW; go_simp; try with_reducible rfl) ?_
              refine wpS_nil ?_
              go_simp
              go_wp2_with fail
              go_roundw
              case rel => exact ⟨i + 1, by go_num, by omega, HX7, HRow, HB⟩
              case measure => simp [intOf]; omega
            · have hkb : (a.k != 2) = true := by simpa using hk2
              obtain ⟨hc12, hc13⟩ := hkk.resolve_left hk2
              have HS : Hid ((fun W : World => W.cell? ⟨gb, i, none⟩ = some (.int .u8 x) ∧ W.cell? (ad.add i) = some (.int .u8 y) ∧ W.cell? ⟨g4, 0, none⟩ = some (.int .u16 a.k)) wr.drew) := Lib.hid ⟨cx, cy, hkc⟩
              refine wp_region_s (fun W : World => W.cell? ⟨gb, i, none⟩ = some (.int .u8 x) ∧ W.cell? (ad.add i) = some (.int .u8 y) ∧ W.cell? ⟨g4, 0, none⟩ = some (.int .u16 a.k)) [(0, true), (1, true), (2, true), (4, true), (5, true), (6, true), (3, true), (7, true), (8, true), (9, true), (10, true), (11, true), (12, true), (13, true), (14, true), (15, true), (16, false), (17, true), (18, true), (19, true), (20, true), (21, true), (22, true), (23, true), (24, true), (25, true), (26, true), (27, true)] (by kernel_rfl) (fun _ d _ _ _ h => by cases d <;> exact h) ?_
              simp only [List.map_cons, List.map_nil, nthOp_zero, nthOp_succ]
              replace HB := Lib.hid HB.out.drew
              replace HX7 := Lib.hid (HX7.out.later (Below.refl _ _).drew)
              replace HRow : Hid (Row wr.drew gb 5 cap (u8s bs)) := Lib.hid (HRow.out.drewN 1)
              generalize wr.drew = wc at *
              clear cx cy hkc
              refine wpS_take HS (by kernel_rfl) (by intro W hW; clear hW; go_simp; try with_reducible rfl) ?_
              refine wpS_take HS (by kernel_rfl) (by intro W hW; clear hW; go_simp; try with_reducible rfl) ?_
              refine wpS_take HS (by kernel_rfl) (by intro W hW; clear hW; go_simp; try with_reducible rfl) ?_
              go_simp
              refine wpS_take HS (by kernel_rfl) (by intro W hW; clear hW; go_simp; try with_reducible rfl) ?_
              refine wpS_take HS (by kernel_rfl) (by intro W hW; clear hW; go_simp; try with_reducible rfl) ?_
              refine wpS_take HS (by kernel_rfl) (by intro W hW; clear hW; go_simp; try with_reducible rfl) ?_
              go_simp
              refine wpS_take HS (by kernel_rfl) (by intro W hW; obtain ⟨hc1, hc2, hc3⟩ := hW; go_simp; try with_reducible rfl) ?_
              refine wpS_take HS (by kernel_rfl) (by intro W hW; obtain ⟨hc1, hc2, hc3⟩ := hW; go_simp; try with_reducible rfl) ?_
              refine wpS_take HS (by kernel_rfl) (by intro W hW; clear hW; go_simp; try with_reducible rfl) ?_
              go_simp
              refine wpS_take HS (by kernel_rfl) (by intro W hW; clear hW; go_simp; try with_reducible rfl) ?_
              refine wpS_take HS (by kernel_rfl) (by intro W hW; clear hW; go_simp; try with_reducible rfl) ?_
              refine wpS_take HS (by kernel_rfl) (by intro W hW; obtain ⟨hc1, hc2, hc3⟩ := hW; go_simp; try with_reducible rfl) ?_
              go_simp
              refine wpS_take HS (by kernel_rfl) (by intro W hW; clear hW; go_simp; try with_reducible rfl) ?_
              refine wpS_take HS (by kernel_rfl) (by intro W hW; clear hW; go_simp; try with_reducible rfl) ?_
              refine wpS_take HS (by kernel_rfl) (by intro W hW; clear hW; go_simp; try with_reducible rfl) ?_
              go_simp
              refine wpS_take HS (by kernel_rfl) (by intro W hW; clear hW; go_simp; try with_reducible rfl) ?_
              go_simp
              refine wpS_do fun K hK => ?_
              go_wp2_with fail
              refine (ones_any (some ad) n c _ xs wc _ (HX.out.later HB.out) (by omega) hc hm h1213 hc12 hc13).mono ?_
              rintro e wd ⟨rfl, kd, rfl⟩
              replace HB := Lib.hid (HB.out.trans (below_of_drewN _ wc kd))
              replace HX7 := Lib.hid (HX7.out.later (below_of_drewN _ wc kd))
              replace HRow : Hid (Row (wc.drewN kd) gb 5 cap (u8s bs)) := Lib.hid (HRow.out.drewN kd)
              replace HS : Hid ((fun W : World => W.cell? ⟨gb, i, none⟩ = some (.int .u8 x) ∧ W.cell? (ad.add i) = some (.int .u8 y) ∧ W.cell? ⟨g4, 0, none⟩ = some (.int .u16 a.k)) (wc.drewN kd)) := Lib.hid HS.out
              generalize wc.drewN kd = wd at *
              go_wp2_with fail
              refine hK.out _ _ HS.out ?_
              clear hK K
              refine wpS_take HS (by kernel_rfl) (by intro W hW; clear hW; go_simp; try with_reducible rfl) ?_
              go_simp
              refine wpS_take HS (by kernel_rfl) (by intro W hW; clear hW; go_simp; try with_reducible rfl) ?_
              refine wpS_take HS (by kernel_rfl) (by intro W hW; clear hW; go_simp; try with_reducible rfl) ?_
              refine wpS_take HS (by kernel_rfl) (by intro W hW; clear hW; go_simp; try with_reducible rfl) ?_
              go_simp
              refine wpS_take HS (by kernel_rfl) (by intro W hW; clear hW; go_simp; try with_reducible rfl) ?_
              refine wpS_take HS (by kernel_rfl) (by intro W hW; clear hW; go_simp; try with_reducible rfl) ?_
              refine wpS_skip HS (by kernel_rfl) ?_
              refine wpS_skip HS (by kernel_rfl) ?_
              refine wpS_take HS (by kernel_rfl) (by intro W hW; clear hW; go_simp; try with_reducible rfl) ?_
              go_simp
              refine wpS_take HS (by kernel_rfl) (by intro W hW; clear hW; go_simp; try with_reducible rfl) ?_
              refine wpS_take HS (by kernel_rfl) (by intro W hW; clear hW; go_simp; try with_reducible rfl) ?_
              refine wpS_nil ?_
              go_simp
              go_wp2_with fail
              go_roundw
              case rel => exact ⟨i + 1, by go_num, by omega, HX7, HRow, HB⟩
              case measure => simp [intOf]; omega
          · have hi13 : i = 13 := by omega
            have j12 : ((i : Int) != 12) = true := by simp; omega
            have j13 : ((i : Int) != 13) = false := by simp; omega
            clear hi13 hi12
            by_cases hk2 : a.k = 2
            · have hkb : (a.k != 2) = false := by simpa using hk2
              clear hkk hk2
              have HS : Hid ((fun W : World => W.cell? ⟨gb, i, none⟩ = some (.int .u8 x) ∧ W.cell? (ad.add i) = some (.int .u8 y) ∧ W.cell? ⟨g4, 0, none⟩ = some (.int .u16 a.k)) wr.drew) := Lib.hid ⟨cx, cy, hkc⟩
              refine wp_region_s (fun W : World => W.cell? ⟨gb, i, none⟩ = some (.int .u8 x) ∧ W.cell? (ad.add i) = some (.int .u8 y) ∧ W.cell? ⟨g4, 0, none⟩ = some (.int .u16 a.k)) [(0, true), (1, true), (2, true), (4, true), (5, true), (6, true), (3, true), (7, true), (8, true), (9, true), (10, true), (11, true), (12, true), (13, true), (14, true), (15, true), (16, false), (17, true), (18, true), (19, true), (20, true), (21, true), (22, true), (23, true), (24, true), (25, true), (26, true), (27, true)] (by kernel_rfl) (fun _ d _ _ _ h => by cases d <;> exact h) ?_
              simp only [List.map_cons, List.map_nil, nthOp_zero, nthOp_succ]
              replace HB := Lib.hid HB.out.drew
              replace HX7 := Lib.hid (HX7.out.later (Below.refl _ _).drew)
              replace HRow : Hid (Row wr.drew gb 5 cap (u8s bs)) := Lib.hid (HRow.out.drewN 1)
              generalize wr.drew = wc at *
              clear cx cy hkc
              refine wpS_take HS (by kernel_rfl) (by intro W hW; clear hW; go_simp; try with_reducible rfl) ?_
              refine wpS_take HS (by kernel_rfl) (by intro W hW; clear hW; go_simp; try with_reducible rfl) ?_
              refine wpS_take HS (by kernel_rfl) (by intro W hW; clear hW; go_simp; try with_reducible rfl) ?_
              go_simp
              refine wpS_take HS (by kernel_rfl) (by intro W hW; clear hW; go_simp; try with_reducible rfl) ?_
              refine wpS_take HS (by kernel_rfl) (by intro W hW; clear hW; go_simp; try with_reducible rfl) ?_
              refine wpS_take HS (by kernel_rfl) (by intro W hW; clear hW; go_simp; try with_reducible rfl) ?_
              go_simp
              refine wpS_take HS (by kernel_rfl) (by intro W hW; obtain ⟨hc1, hc2, hc3⟩ := hW; go_simp; try with_reducible rfl) ?_
              refine wpS_take HS (by kernel_rfl) (by intro W hW; obtain ⟨hc1, hc2, hc3⟩ := hW; go_simp; try with_reducible rfl) ?_
              refine wpS_take HS (by kernel_rfl) (by intro W hW; clear hW; go_simp; try with_reducible rfl) ?_
              go_simp
              refine wpS_take HS (by kernel_rfl) (by intro W hW; clear hW; go_simp; try with_reducible rfl) ?_
              refine wpS_take HS (by kernel_rfl) (by intro W hW; clear hW; go_simp; try with_reducible rfl) ?_
              refine wpS_take HS (by kernel_rfl) (by intro W hW; obtain ⟨hc1, hc2, hc3⟩ := hW; go_simp; try with_reducible rfl) ?_
              go_simp
              refine wpS_take HS (by kernel_rfl) (by intro W hW; clear hW; go_simp; try with_reducible rfl) ?_
              refine wpS_take HS (by kernel_rfl) (by intro W hW; clear hW; go_simp; try with_reducible rfl) ?_
              refine wpS_skip HS (by kernel_rfl) ?_
              refine wpS_skip HS (by kernel_rfl) ?_
              go_simp
              refine wpS_do fun K hK => ?_
              go_wp2_with fail
              refine hK.out _ _ HS.out ?_
              clear hK K
              refine wpS_skip HS (by kernel_rfl) ?_
              refine wpS_take HS (by kernel_rfl) (by intro W hW; clear hW; go_simp; try with_reducible rfl) ?_
              go_simp
              refine wpS_take HS (by kernel_rfl) (by intro W hW; clear hW; go_simp; try with_reducible rfl) ?_
              refine wpS_take HS (by kernel_rfl) (by intro W hW; clear hW; go_simp; try with_reducible rfl) ?_
              refine wpS_take HS (by kernel_rfl) (by intro W hW; clear hW; go_simp; try with_reducible rfl) ?_
              go_simp
              refine wpS_take HS (by kernel_rfl) (by intro W hW; clear hW; go_simp; try with_reducible rfl) ?_
              refine wpS_take HS (by kernel_rfl) (by intro W hW; clear hW; go_simp; try with_reducible rfl) ?_
              refine wpS_take HS (by kernel_rfl) (by intro W hW; clear hW; go_simp; try with_reducible rfl) ?_
              go_simp
              refine wpS_take HS (by kernel_rfl) (by intro W hW; clear hW; go_simp; try with_reducible rfl) ?_
              refine wpS_take HS (by kernel_rfl) (by intro W hW; clear hW; go_simp; try with_reducible rfl) ?_
              refine wpS_take HS (by kernel_rfl) (by intro W hW; clear hW; go_simp; try with_reducible rfl) ?_
              go_simp
              refine wpS_nil ?_
              go_simp
              go_wp2_with fail
              go_roundw
              case rel => exact ⟨i + 1, by go_num, by omega, HX7, HRow, HB⟩
              case measure => simp [intOf]; omega
            · have hkb : (a.k != 2) = true := by simpa using hk2
              obtain ⟨hc12, hc13⟩ := hkk.resolve_left hk2
              have HS : Hid ((fun W : World => W.cell? ⟨gb, i, none⟩ = some (.int .u8 x) ∧ W.cell? (ad.add i) = some (.int .u8 y) ∧ W.cell? ⟨g4, 0, none⟩ = some (.int .u16 a.k)) wr.drew) := Lib.hid ⟨cx, cy, hkc⟩
              refine wp_region_s (fun W : World => W.cell? ⟨gb, i, none⟩ = some (.int .u8 x) ∧ W.cell? (ad.add i) = some (.int .u8 y) ∧ W.cell? ⟨g4, 0, none⟩ = some (.int .u16 a.k)) [(0, true), (1, true), (2, true), (4, true), (5, true), (6, true), (3, true), (7, true), (8, true), (9, true), (10, true), (11, true), (12, true), (13, true), (14, true), (15, true), (16, false), (17, true), (18, true), (19, true), (20, true), (21, true), (22, true), (23, true), (24, true), (25, true), (26, true), (27, true)] (by kernel_rfl) (fun _ d _ _ _ h => by cases d <;> exact h) ?_
              simp only [List.map_cons, List.map_nil, nthOp_zero, nthOp_succ]
              replace HB := Lib.hid HB.out.drew
              replace HX7 := Lib.hid (HX7.out.later (Below.refl _ _).drew)
              replace HRow : Hid (Row wr.drew gb 5 cap (u8s bs)) := Lib.hid (HRow.out.drewN 1)
              generalize wr.drew = wc at *
              clear cx cy hkc
              refine wpS_take HS (by kernel_rfl) (by intro W hW; clear hW; go_simp; try with_reducible rfl) ?_
              refine wpS_take HS (by kernel_rfl) (by intro W hW; clear hW; go_simp; try with_reducible rfl) ?_
              refine wpS_take HS (by kernel_rfl) (by intro W hW; clear hW; go_simp; try with_reducible rfl) ?_
              go_simp
              refine wpS_take HS (by kernel_rfl) (by intro W hW; clear hW; go_simp; try with_reducible rfl) ?_
              refine wpS_take HS (by kernel_rfl) (by intro W hW; clear hW; go_simp; try with_reducible rfl) ?_
              refine wpS_take HS (by kernel_rfl) (by intro W hW; clear hW; go_simp; try with_reducible rfl) ?_
              go_simp
              refine wpS_take HS (by kernel_rfl) (by intro W hW; obtain ⟨hc1, hc2, hc3⟩ := hW; go_simp; try with_reducible rfl) ?_
              refine wpS_take HS (by kernel_rfl) (by intro W hW; obtain ⟨hc1, hc2, hc3⟩ := hW; go_simp; try with_reducible rfl) ?_
              refine wpS_take HS (by kernel_rfl) (by intro W hW; clear hW; go_simp; try with_reducible rfl) ?_
              go_simp
              refine wpS_take HS (by kernel_rfl) (by intro W hW; clear hW; go_simp; try with_reducible rfl) ?_
              refine wpS_take HS (by kernel_rfl) (by intro W hW; clear hW; go_simp; try with_reducible rfl) ?_
              refine wpS_take HS (by kernel_rfl) (by intro W hW; obtain ⟨hc1, hc2, hc3⟩ := hW; go_simp; try with_reducible rfl) ?_
              go_simp
              refine wpS_take HS (by kernel_rfl) (by intro W hW; clear hW; go_simp; try with_reducible rfl) ?_
              refine wpS_take HS (by kernel_rfl) (by intro W hW; clear hW; go_simp; try with_reducible rfl) ?_
              refine wpS_take HS (by kernel_rfl) (by intro W hW; clear hW; go_simp; try with_reducible rfl) ?_
              go_simp
              refine wpS_take HS (by kernel_rfl) (by intro W hW; clear hW; go_simp; try with_reducible rfl) ?_
              go_simp
              refine wpS_do fun K hK => ?_
              go_wp2_with fail
              refine (ones_any (some ad) n c _ xs wc _ (HX.out.later HB.out) (by omega) hc hm h1213 hc12 hc13).mono ?_
              rintro e wd ⟨rfl, kd, rfl⟩
              replace HB := Lib.hid (HB.out.trans (below_of_drewN _ wc kd))
              replace HX7 := Lib.hid (HX7.out.later (below_of_drewN _ wc kd))
              replace HRow : Hid (Row (wc.drewN kd) gb 5 cap (u8s bs)) := Lib.hid (HRow.out.drewN kd)
              replace HS : Hid ((fun W : World => W.cell? ⟨gb, i, none⟩ = some (.int .u8 x) ∧ W.cell? (ad.add i) = some (.int .u8 y) ∧ W.cell? ⟨g4, 0, none⟩ = some (.int .u16 a.k)) (wc.drewN kd)) := Lib.hid HS.out
              generalize wc.drewN kd = wd at *
              go_wp2_with fail
              refine hK.out _ _ HS.out ?_
              clear hK K
              refine wpS_take HS (by kernel_rfl) (by intro W hW; clear hW; go_simp; try with_reducible rfl) ?_
              go_simp
              refine wpS_take HS (by kernel_rfl) (by intro W hW; clear hW; go_simp; try with_reducible rfl) ?_
              refine wpS_take HS (by kernel_rfl) (by intro W hW; clear hW; go_simp; try with_reducible rfl) ?_
              refine wpS_take HS (by kernel_rfl) (by intro W hW; clear hW; go_simp; try with_reducible rfl) ?_
              go_simp
              refine wpS_take HS (by kernel_rfl) (by intro W hW; clear hW; go_simp; try with_reducible rfl) ?_
              refine wpS_take HS (by kernel_rfl) (by intro W hW; clear hW; go_simp; try with_reducible rfl) ?_
              refine wpS_take HS (by kernel_rfl) (by intro W hW; clear hW; go_simp; try with_reducible rfl) ?_
              go_simp
              refine wpS_take HS (by kernel_rfl) (by intro W hW; clear hW; go_simp; try with_reducible rfl) ?_
              refine wpS_take HS (by kernel_rfl) (by intro W hW; clear hW; go_simp; try with_reducible rfl) ?_
              refine wpS_take HS (by kernel_rfl) (by intro W hW; clear hW; go_simp; try with_reducible rfl) ?_
              go_simp
              refine wpS_take HS (by kernel_rfl) (by intro W hW; clear hW; go_simp; try with_reducible rfl) ?_
              refine wpS_nil ?_
              go_simp
              go_wp2_with fail
              go_roundw
              case rel => exact ⟨i + 1, by go_num, by omega, HX7, HRow, HB⟩
              case measure => simp [intOf]; omega
      · obtain rfl : i = m := by omega
        have dm : decide ((i : Int) < (i : Int)) = false := decide_eq_false (by omega)
        go_wp2_with fail
        refine (lives_any wr).mono ?_
        rintro e wl ⟨rfl, hbl2⟩
        go_wp2_with fail
        go_ret
        exact ⟨rfl, below_then HB.out hbl2⟩
  · have d3 : ((m : Int) != (n : Int)) = true := by simp; omega
    have hk2 : (a.k != 2) = false := by
      rcases key.out with h | h
      · omega
      · simpa using h
    clear key
    go_wp2_with fail
    clear hk2 d3 hmn2
    clear hk0 d1 d2 d1n HS
    go_loopw [8] (BkI w g4 a gb cap bs m) (fun iv _ => m - (intOf iv).toNat)
    case atStart => exact ⟨0, rfl, by omega, HX7, HRow, HB⟩
    case round =>
      obtain ⟨i, rfl, hi, hX7, hRow, hB⟩ := hrel
      clear HX7 HRow HB HX6
      have HX7 := hX7
      have HRow := hRow
      have HB := hB
      clear hX7 hRow hB
      by_cases him : i < m
      · have hin : i < n := by omega
        have dm : decide ((i : Int) < (m : Int)) = true := decide_eq_true (by omega)
        obtain ⟨x, hx, cx⟩ := HRow.out.u8cell (i := i) (by omega)
        obtain ⟨ad, y, rfl, _, hy, cy⟩ := (HX.out.later HB.out).u8at (k := i) (by omega)
        have hbk := HBk.out i (by omega)
        rw [hx.out, hy.out] at hbk
        have hkc : wr.cell? ⟨g4, 0, none⟩ = some (.int .u16 a.k) := HX7.out.cell 0
        go_wp2_with fail
        by_cases hxy : x = y
        · clear hbk
          subst hxy
          have e1 : (x != x) = false := by simp
          have HS : Hid ((fun W : World => W.cell? ⟨gb, i, none⟩ = some (.int .u8 x) ∧ W.cell? (ad.add i) = some (.int .u8 x) ∧ W.cell? ⟨g4, 0, none⟩ = some (.int .u16 a.k)) wr.drew) := Lib.hid ⟨cx, cy, hkc⟩
          refine wp_region_s (fun W : World => W.cell? ⟨gb, i, none⟩ = some (.int .u8 x) ∧ W.cell? (ad.add i) = some (.int .u8 x) ∧ W.cell? ⟨g4, 0, none⟩ = some (.int .u16 a.k)) [(0, true), (1, true), (2, true), (4, true), (5, true), (6, true), (3, true), (7, true), (8, true), (9, true), (10, true), (11, true), (12, true), (13, true), (14, true), (15, true), (16, false), (17, true), (18, true), (19, true), (20, true), (21, true), (22, true), (23, true), (24, true), (25, true), (26, true), (27, true)] (by kernel_rfl) (fun _ d _ _ _ h => by cases d <;> exact h) ?_
          simp only [List.map_cons, List.map_nil, nthOp_zero, nthOp_succ]
          replace HB := Lib.hid HB.out.drew
          replace HX7 := Lib.hid (HX7.out.later (Below.refl _ _).drew)
          replace HRow : Hid (Row wr.drew gb 5 cap (u8s bs)) := Lib.hid (HRow.out.drewN 1)
          generalize wr.drew = wc at *
          clear cx cy hkc
          refine wpS_take HS (by kernel_rfl) (by intro W hW; clear hW; go_simp; try with_reducible rfl) ?_
          refine wpS_take HS (by kernel_rfl) (by intro W hW; clear hW; go_simp; try with_reducible rfl) ?_
          refine wpS_take HS (by kernel_rfl) (by intro W hW; clear hW; go_simp; try with_reducible rfl) ?_
          go_simp
          refine wpS_take HS (by kernel_rfl) (by intro W hW; clear hW; go_simp; try with_reducible rfl) ?_
          refine wpS_take HS (by kernel_rfl) (by intro W hW; clear hW; go_simp; try with_reducible rfl) ?_
          refine wpS_take HS (by kernel_rfl) (by intro W hW; clear hW; go_simp; try with_reducible rfl) ?_
          go_simp
          refine wpS_take HS (by kernel_rfl) (by intro W hW; obtain ⟨hc1, hc2, hc3⟩ := hW; go_simp; try with_reducible rfl) ?_
          refine wpS_take HS (by kernel_rfl) (by intro W hW; obtain ⟨hc1, hc2, hc3⟩ := hW; go_simp; try with_reducible rfl) ?_
          refine wpS_take HS (by kernel_rfl) (by intro W hW; clear hW; go_simp; try with_reducible rfl) ?_
          go_simp
          refine wpS_take HS (by kernel_rfl) (by intro W hW; clear hW; go_simp; try with_reducible rfl) ?_
          refine wpS_skip HS (by kernel_rfl) ?_
          refine wpS_skip HS (by kernel_rfl) ?_
          refine wpS_skip HS (by kernel_rfl) ?_
          refine wpS_skip HS (by kernel_rfl) ?_
          refine wpS_skip HS (by kernel_rfl) ?_
          refine wpS_skip HS (by kernel_rfl) ?_
          go_simp
          refine wpS_do fun K hK => ?_
          go_wp2_with fail
          refine hK.out _ _ HS.out ?_
          clear hK K
          refine wpS_skip HS (by kernel_rfl) ?_
          refine wpS_skip HS (by kernel_rfl) ?_
          refine wpS_skip HS (by kernel_rfl) ?_
          refine wpS_skip HS (by kernel_rfl) ?_
          refine wpS_skip HS (by kernel_rfl) ?_
          refine wpS_skip HS (by kernel_rfl) ?_
          refine wpS_skip HS (by kernel_rfl) ?_
          refine wpS_skip HS (by kernel_rfl) ?_
          refine wpS_skip HS (by kernel_rfl) ?_
          refine wpS_skip HS (by kernel_rfl) ?_
          refine wpS_take HS (by kernel_rfl) (by intro W hW; clear hW; go_simp; try with_reducible rfl) ?_
          refine wpS_nil ?_
          go_simp
          go_wp2_with fail
          go_roundw
          case rel => exact ⟨i + 1, by go_num, by omega, HX7, HRow, HB⟩
          case measure => simp [intOf]; omega
        · have e1 : (x != y) = true := by simpa using hxy
          obtain ⟨h1213, hkk⟩ := hbk.resolve_left (fun h => hxy (Option.some.inj h))
          clear hbk
          by_cases hi12 : i = 12
          · have j12 : ((i : Int) != 12) = false := by simp; omega
            clear hi12
            by_cases hk2 : a.k = 2
            · have hkb : (a.k != 2) = false := by simpa using hk2
              clear hkk hk2
              have HS : Hid ((fun W : World => W.cell? ⟨gb, i, none⟩ = some (.int .u8 x) ∧ W.cell? (ad.add i) = some (.int .u8 y) ∧ W.cell? ⟨g4, 0, none⟩ = some (.int .u16 a.k)) wr.drew) := Lib.hid ⟨cx, cy, hkc⟩
              refine wp_region_s (fun W : World => W.cell? ⟨gb, i, none⟩ = some (.int .u8 x) ∧ W.cell? (ad.add i) = some (.int .u8 y) ∧ W.cell? ⟨g4, 0, none⟩ = some (.int .u16 a.k)) [(0, true), (1, true), (2, true), (4, true), (5, true), (6, true), (3, true), (7, true), (8, true), (9, true), (10, true), (11, true), (12, true), (13, true), (14, true), (15, true), (16, false), (17, true), (18, true), (19, true), (20, true), (21, true), (22, true), (23, true), (24, true), (25, true), (26, true), (27, true)] (by kernel_rfl) (fun _ d _ _ _ h => by cases d <;> exact h) ?_
              simp only [List.map_cons, List.map_nil, nthOp_zero, nthOp_succ]
              replace HB := Lib.hid HB.out.drew
              replace HX7 := Lib.hid (HX7.out.later (Below.refl _ _).drew)
              replace HRow : Hid (Row wr.drew gb 5 cap (u8s bs)) := Lib.hid (HRow.out.drewN 1)
              generalize wr.drew = wc at *
              clear cx cy hkc
              refine wpS_take HS (by kernel_rfl) (by intro W hW; clear hW; go_simp; try with_reducible rfl) ?_
              refine wpS_take HS (by kernel_rfl) (by intro W hW; clear hW; go_simp; try with_reducible rfl) ?_
              refine wpS_take HS (by kernel_rfl) (by intro W hW; clear hW; go_simp; try with_reducible rfl) ?_
              go_simp
              refine wpS_take HS (by kernel_rfl) (by intro W hW; clear hW; go_simp; try with_reducible rfl) ?_
              refine wpS_take HS (by kernel_rfl) (by intro W hW; clear hW; go_simp; try with_reducible rfl) ?_
              refine wpS_take HS (by kernel_rfl) (by intro W hW; clear hW; go_simp; try with_reducible rfl) ?_
              go_simp
              refine wpS_take HS (by kernel_rfl) (by intro W hW; obtain ⟨hc1, hc2, hc3⟩ := hW; go_simp; try with_reducible rfl) ?_
              refine wpS_take HS (by kernel_rfl) (by intro W hW; obtain ⟨hc1, hc2, hc3⟩ := hW; go_simp; try with_reducible rfl) ?_
              refine wpS_take HS (by kernel_rfl) (by intro W hW; clear hW; go_simp; try with_reducible rfl) ?_
              go_simp
              refine wpS_take HS (by kernel_rfl) (by intro W hW; clear hW; go_simp; try with_reducible rfl) ?_
              refine wpS_take HS (by kernel_rfl) (by intro W hW; clear hW; go_simp; try with_reducible rfl) ?_
              refine wpS_take HS (by kernel_rfl) (by intro W hW; obtain ⟨hc1, hc2, hc3⟩ := hW; go_simp; try with_reducible rfl) ?_
              go_simp
              refine wpS_take HS (by kernel_rfl) (by intro W hW; clear hW; go_simp; try with_reducible rfl) ?_
              refine wpS_take HS (by kernel_rfl) (by intro W hW; clear hW; go_simp; try with_reducible rfl) ?_
              refine wpS_skip HS (by kernel_rfl) ?_
              refine wpS_skip HS (by kernel_rfl) ?_
              go_simp
              refine wpS_do fun K hK => ?_
              go_wp2_with fail
              refine hK.out _ _ HS.out ?_
              clear hK K
              refine wpS_skip HS (by kernel_rfl) ?_
              refine wpS_take HS (by kernel_rfl) (by intro W hW; clear hW; go_simp; try with_reducible rfl) ?_
              go_simp
              refine wpS_take HS (by kernel_rfl) (by intro W hW; clear hW; go_simp; try with_reducible rfl) ?_
              refine wpS_take HS (by kernel_rfl) (by intro W hW; clear hW; go_simp; try with_reducible rfl) ?_
              refine wpS_take HS (by kernel_rfl) (by intro W hW; clear hW; go_simp; try with_reducible rfl) ?_
              go_simp
              refine wpS_take HS (by kernel_rfl) (by intro W hW; clear hW; go_simp; try with_reducible rfl) ?_
              refine wpS_skip HS (by kernel_rfl) ?_
              refine wpS_skip HS (by kernel_rfl) ?_
              refine wpS_take HS (by kernel_rfl) (by intro W hW; clear hW; go_simp; try with_reducible rfl) ?_
              refine wpS_take HS (by kernel_rfl) (by intro W hW; clear hW; go_simp; try with_reducible rfl) ?_
              go_simp
              refine wpS_take HS (by kernel_rfl) (by intro W hW; clear hW; go_simp; try with_reducible rfl) ?_
              refine wpS_nil ?_
              go_simp
              go_wp2_with fail
              go_roundw
              case rel => exact ⟨i + 1, by go_num, by omega, HX7, HRow, HB⟩
              case measure => simp [intOf]; omega
            · have hkb : (a.k != 2) = true := by simpa using hk2
              obtain ⟨hc12, hc13⟩ := hkk.resolve_left hk2
              have HS : Hid ((fun W : World => W.cell? ⟨gb, i, none⟩ = some (.int .u8 x) ∧ W.cell? (ad.add i) = some (.int .u8 y) ∧ W.cell? ⟨g4, 0, none⟩ = some (.int .u16 a.k)) wr.drew) := Lib.hid ⟨cx, cy, hkc⟩
              refine wp_region_s (fun W : World => W.cell? ⟨gb, i, none⟩ = some (.int .u8 x) ∧ W.cell? (ad.add i) = some (.int .u8 y) ∧ W.cell? ⟨g4, 0, none⟩ = some (.int .u16 a.k)) [(0, true), (1, true), (2, true), (4, true), (5, true), (6, true), (3, true), (7, true), (8, true), (9, true), (10, true), (11, true), (12, true), (13, true), (14, true), (15, true), (16, false), (17, true), (18, true), (19, true), (20, true), (21, true), (22, true), (23, true), (24, true), (25, true), (26, true), (27, true)] (by kernel_rfl) (fun _ d _ _ _ h => by cases d <;> exact h) ?_
              simp only [List.map_cons, List.map_nil, nthOp_zero, nthOp_succ]
              replace HB := Lib.hid HB.out.drew
              replace HX7 := Lib.hid (HX7.out.later (Below.refl _ _).drew)
              replace HRow : Hid (Row wr.drew gb 5 cap (u8s bs)) := Lib.hid (HRow.out.drewN 1)
              generalize wr.drew = wc at *
              clear cx cy hkc
              refine wpS_take HS (by kernel_rfl) (by intro W hW; clear hW; go_simp; try with_reducible rfl) ?_
              refine wpS_take HS (by kernel_rfl) (by intro W hW; clear hW; go_simp; try with_reducible rfl) ?_
              refine wpS_take HS (by kernel_rfl) (by intro W hW; clear hW; go_simp; try with_reducible rfl) ?_
              go_simp
              refine wpS_take HS (by kernel_rfl) (by intro W hW; clear hW; go_simp; try with_reducible rfl) ?_
              refine wpS_take HS (by kernel_rfl) (by intro W hW; clear hW; go_simp; try with_reducible rfl) ?_
              refine wpS_take HS (by kernel_rfl) (by intro W hW; clear hW; go_simp; try with_reducible rfl) ?_
              go_simp
              refine wpS_take HS (by kernel_rfl) (by intro W hW; obtain ⟨hc1, hc2, hc3⟩ := hW; go_simp; try with_reducible rfl) ?_
              refine wpS_take HS (by kernel_rfl) (by intro W hW; obtain ⟨hc1, hc2, hc3⟩ := hW; go_simp; try with_reducible rfl) ?_
              refine wpS_take HS (by kernel_rfl) (by intro W hW; clear hW; go_simp; try with_reducible rfl) ?_
              go_simp
              refine wpS_take HS (by kernel_rfl) (by intro W hW; clear hW; go_simp; try with_reducible rfl) ?_
              refine wpS_take HS (by kernel_rfl) (by intro W hW; clear hW; go_simp; try with_reducible rfl) ?_
              refine wpS_take HS (by kernel_rfl) (by intro W hW; obtain ⟨hc1, hc2, hc3⟩ := hW; go_simp; try with_reducible rfl) ?_
              go_simp
              refine wpS_take HS (by kernel_rfl) (by intro W hW; clear hW; go_simp; try with_reducible rfl) ?_
              refine wpS_take HS (by kernel_rfl) (by intro W hW; clear hW; go_simp; try with_reducible rfl) ?_
              refine wpS_take HS (by kernel_rfl) (by intro W hW; clear hW; go_simp; try with_reducible rfl) ?_
              go_simp
              refine wpS_take HS (by kernel_rfl) (by intro W hW; clear hW; go_simp; try with_reducible rfl) ?_
              go_simp
              refine wpS_do fun K hK => ?_
              go_wp2_with fail
              refine (ones_any (some ad) n c _ xs wc _ (HX.out.later HB.out) (by omega) hc hm h1213 hc12 hc13).mono ?_
              rintro e wd ⟨rfl, kd, rfl⟩
              replace HB := Lib.hid (HB.out.trans (below_of_drewN _ wc kd))
              replace HX7 := Lib.hid (HX7.out.later (below_of_drewN _ wc kd))
              replace HRow : Hid (Row (wc.drewN kd) gb 5 cap (u8s bs)) := Lib.hid (HRow.out.drewN kd)
              replace HS : Hid ((fun W : World => W.cell? ⟨gb, i, none⟩ = some (.int .u8 x) ∧ W.cell? (ad.add i) = some (.int .u8 y) ∧ W.cell? ⟨g4, 0, none⟩ = some (.int .u16 a.k)) (wc.drewN kd)) := Lib.hid HS.out
              generalize wc.drewN kd = wd at *
              go_wp2_with fail
              refine hK.out _ _ HS.out ?_
              clear hK K
              refine wpS_take HS (by kernel_rfl) (by intro W hW; clear hW; go_simp; try with_reducible rfl) ?_
              go_simp
              refine wpS_take HS (by kernel_rfl) (by intro W hW; clear hW; go_simp; try with_reducible rfl) ?_
              refine wpS_take HS (by kernel_rfl) (by intro W hW; clear hW; go_simp; try with_reducible rfl) ?_
              refine wpS_take HS (by kernel_rfl) (by intro W hW; clear hW; go_simp; try with_reducible rfl) ?_
              go_simp
              refine wpS_take HS (by kernel_rfl) (by intro W hW; clear hW; go_simp; try with_reducible rfl) ?_
              refine wpS_take HS (by kernel_rfl) (by intro W hW; clear hW; go_simp; try with_reducible rfl) ?_
              refine wpS_skip HS (by kernel_rfl) ?_
              refine wpS_skip HS (by kernel_rfl) ?_
              refine wpS_take HS (by kernel_rfl) (by intro W hW; clear hW; go_simp; try with_reducible rfl) ?_
              go_simp
              refine wpS_take HS (by kernel_rfl) (by intro W hW; clear hW; go_simp; try with_reducible rfl) ?_
              refine wpS_take HS (by kernel_rfl) (by intro W hW; clear hW; go_simp; try with_reducible rfl) ?_
              refine wpS_nil ?_
              go_simp
              go_wp2_with fail
              go_roundw
              case rel => exact ⟨i + 1, by go_num, by omega, HX7, HRow, HB⟩
              case measure => simp [intOf]; omega
          · have hi13 : i = 13 := by omega
            have j12 : ((i : Int) != 12) = true := by simp; omega
            have j13 : ((i : Int) != 13) = false := by simp; omega
            clear hi13 hi12
            by_cases hk2 : a.k = 2
            · have hkb : (a.k != 2) = false := by simpa using hk2
              clear hkk hk2
              have HS : Hid ((fun W : World => W.cell? ⟨gb, i, none⟩ = some (.int .u8 x) ∧ W.cell? (ad.add i) = some (.int .u8 y) ∧ W.cell? ⟨g4, 0, none⟩ = some (.int .u16 a.k)) wr.drew) := Lib.hid ⟨cx, cy, hkc⟩
              refine wp_region_s (fun W : World => W.cell? ⟨gb, i, none⟩ = some (.int .u8 x) ∧ W.cell? (ad.add i) = some (.int .u8 y) ∧ W.cell? ⟨g4, 0, none⟩ = some (.int .u16 a.k)) [(0, true), (1, true), (2, true), (4, true), (5, true), (6, true), (3, true), (7, true), (8, true), (9, true), (10, true), (11, true), (12, true), (13, true), (14, true), (15, true), (16, false), (17, true), (18, true), (19, true), (20, true), (21, true), (22, true), (23, true), (24, true), (25, true), (26, true), (27, true)] (by kernel_rfl) (fun _ d _ _ _ h => by cases d <;> exact h) ?_
              simp only [List.map_cons, List.map_nil, nthOp_zero, nthOp_succ]
              replace HB := Lib.hid HB.out.drew
              replace HX7 := Lib.hid (HX7.out.later (Below.refl _ _).drew)
              replace HRow : Hid (Row wr.drew gb 5 cap (u8s bs)) := Lib.hid (HRow.out.drewN 1)
              generalize wr.drew = wc at *
              clear cx cy hkc
              refine wpS_take HS (by kernel_rfl) (by intro W hW; clear hW; go_simp; try with_reducible rfl) ?_
              refine wpS_take HS (by kernel_rfl) (by intro W hW; clear hW; go_simp; try with_reducible rfl) ?_
              refine wpS_take HS (by kernel_rfl) (by intro W hW; clear hW; go_simp; try with_reducible rfl) ?_
              go_simp
              refine wpS_take HS (by kernel_rfl) (by intro W hW; clear hW; go_simp; try with_reducible rfl) ?_
              refine wpS_take HS (by kernel_rfl) (by intro W hW; clear hW; go_simp; try with_reducible rfl) ?_
              refine wpS_take HS (by kernel_rfl) (by intro W hW; clear hW; go_simp; try with_reducible rfl) ?_
              go_simp
              refine wpS_take HS (by kernel_rfl) (by intro W hW; obtain ⟨hc1, hc2, hc3⟩ := hW; go_simp; try with_reducible rfl) ?_
              refine wpS_take HS (by kernel_rfl) (by intro W hW; obtain ⟨hc1, hc2, hc3⟩ := hW; go_simp; try with_reducible rfl) ?_
              refine wpS_take HS (by kernel_rfl) (by intro W hW; clear hW; go_simp; try with_reducible rfl) ?_
              go_simp
              refine wpS_take HS (by kernel_rfl) (by intro W hW; clear hW; go_simp; try with_reducible rfl) ?_
              refine wpS_take HS (by kernel_rfl) (by intro W hW; clear hW; go_simp; try with_reducible rfl) ?_
              refine wpS_take HS (by kernel_rfl) (by intro W hW; obtain ⟨hc1, hc2, hc3⟩ := hW; go_simp; try with_reducible rfl) ?_
              go_simp
              refine wpS_take HS (by kernel_rfl) (by intro W hW; clear hW; go_simp; try with_reducible rfl) ?_
              refine wpS_take HS (by kernel_rfl) (by intro W hW; clear hW; go_simp; try with_reducible rfl) ?_
              refine wpS_skip HS (by kernel_rfl) ?_
              refine wpS_skip HS (by kernel_rfl) ?_
              go_simp
              refine wpS_do fun K hK => ?_
              go_wp2_with fail
              refine hK.out _ _ HS.out ?_
              clear hK K
              refine wpS_skip HS (by kernel_rfl) ?_
              refine wpS_take HS (by kernel_rfl) (by intro W hW; clear hW; go_simp; try with_reducible rfl) ?_
              go_simp
              refine wpS_take HS (by kernel_rfl) (by intro W hW; clear hW; go_simp; try with_reducible rfl) ?_
              refine wpS_take HS (by kernel_rfl) (by intro W hW; clear hW; go_simp; try with_reducible rfl) ?_
              refine wpS_take HS (by kernel_rfl) (by intro W hW; clear hW; go_simp; try with_reducible rfl) ?_
              go_simp
              refine wpS_take HS (by kernel_rfl) (by intro W hW; clear hW; go_simp; try with_reducible rfl) ?_
              refine wpS_take HS (by kernel_rfl) (by intro W hW; clear hW; go_simp; try with_reducible rfl) ?_
              refine wpS_take HS (by kernel_rfl) (by intro W hW; clear hW; go_simp; try with_reducible rfl) ?_
              go_simp
              refine wpS_take HS (by kernel_rfl) (by intro W hW; clear hW; go_simp; try with_reducible rfl) ?_
              refine wpS_take HS (by kernel_rfl) (by intro W hW; clear hW; go_simp; try with_reducible rfl) ?_
              refine wpS_take HS (by kernel_rfl) (by intro W hW; clear hW; go_simp; try with_reducible rfl) ?_
              go_simp
              refine wpS_nil ?_
              go_simp
              go_wp2_with fail
              go_roundw
              case rel => exact ⟨i + 1, by go_num, by omega, HX7, HRow, HB⟩
              case measure => simp [intOf]; omega
            · have hkb : (a.k != 2) = true := by simpa using hk2
              obtain ⟨hc12, hc13⟩ := hkk.resolve_left hk2
              have HS : Hid ((fun W : World => W.cell? ⟨gb, i, none⟩ = some (.int .u8 x) ∧ W.cell? (ad.add i) = some (.int .u8 y) ∧ W.cell? ⟨g4, 0, none⟩ = some (.int .u16 a.k)) wr.drew) := Lib.hid ⟨cx, cy, hkc⟩
              refine wp_region_s (fun W : World => W.cell? ⟨gb, i, none⟩ = some (.int .u8 x) ∧ W.cell? (ad.add i) = some (.int .u8 y) ∧ W.cell? ⟨g4, 0, none⟩ = some (.int .u16 a.k)) [(0, true), (1, true), (2, true), (4, true), (5, true), (6, true), (3, true), (7, true), (8, true), (9, true), (10, true), (11, true), (12, true), (13, true), (14, true), (15, true), (16, false), (17, true), (18, true), (19, true), (20, true), (21, true), (22, true), (23, true), (24, true), (25, true), (26, true), (27, true)] (by kernel_rfl) (fun _ d _ _ _ h => by cases d <;> exact h) ?_
              simp only [List.map_cons, List.map_nil, nthOp_zero, nthOp_succ]
              replace HB := Lib.hid HB.out.drew
              replace HX7 := Lib.hid (HX7.out.later (Below.refl _ _).drew)
              replace HRow : Hid (Row wr.drew gb 5 cap (u8s bs)) := Lib.hid (HRow.out.drewN 1)
              generalize wr.drew = wc at *
              clear cx cy hkc
              refine wpS_take HS (by kernel_rfl) (by intro W hW; clear hW; go_simp; try with_reducible rfl) ?_
              refine wpS_take HS (by kernel_rfl) (by intro W hW; clear hW; go_simp; try with_reducible rfl) ?_
              refine wpS_take HS (by kernel_rfl) (by intro W hW; clear hW; go_simp; try with_reducible rfl) ?_
              go_simp
              refine wpS_take HS (by kernel_rfl) (by intro W hW; clear hW; go_simp; try with_reducible rfl) ?_
              refine wpS_take HS (by kernel_rfl) (by intro W hW; clear hW; go_simp; try with_reducible rfl) ?_
              refine wpS_take HS (by kernel_rfl) (by intro W hW; clear hW; go_simp; try with_reducible rfl) ?_
              go_simp
              refine wpS_take HS (by kernel_rfl) (by intro W hW; obtain ⟨hc1, hc2, hc3⟩ := hW; go_simp; try with_reducible rfl) ?_
              refine wpS_take HS (by kernel_rfl) (by intro W hW; obtain ⟨hc1, hc2, hc3⟩ := hW; go_simp; try with_reducible rfl) ?_
              refine wpS_take HS (by kernel_rfl) (by intro W hW; clear hW; go_simp; try with_reducible rfl) ?_
              go_simp
              refine wpS_take HS (by kernel_rfl) (by intro W hW; clear hW; go_simp; try with_reducible rfl) ?_
              refine wpS_take HS (by kernel_rfl) (by intro W hW; clear hW; go_simp; try with_reducible rfl) ?_
              refine wpS_take HS (by kernel_rfl) (by intro W hW; obtain ⟨hc1, hc2, hc3⟩ := hW; go_simp; try with_reducible rfl) ?_
              go_simp
              refine wpS_take HS (by kernel_rfl) (by intro W hW; clear hW; go_simp; try with_reducible rfl) ?_
              refine wpS_take HS (by kernel_rfl) (by intro W hW; clear hW; go_simp; try with_reducible rfl) ?_
              refine wpS_take HS (by kernel_rfl) (by intro W hW; clear hW; go_simp; try with_reducible rfl) ?_
              go_simp
              refine wpS_take HS (by kernel_rfl) (by intro W hW; clear hW; go_simp; try with_reducible rfl) ?_
              go_simp
              refine wpS_do fun K hK => ?_
              go_wp2_with fail
              refine (ones_any (some ad) n c _ xs wc _ (HX.out.later HB.out) (by omega) hc hm h1213 hc12 hc13).mono ?_
              rintro e wd ⟨rfl, kd, rfl⟩
              replace HB := Lib.hid (HB.out.trans (below_of_drewN _ wc kd))
              replace HX7 := Lib.hid (HX7.out.later (below_of_drewN _ wc kd))
              replace HRow : Hid (Row (wc.drewN kd) gb 5 cap (u8s bs)) := Lib.hid (HRow.out.drewN kd)
              replace HS : Hid ((fun W : World => W.cell? ⟨gb, i, none⟩ = some (.int .u8 x) ∧ W.cell? (ad.add i) = some (.int .u8 y) ∧ W.cell? ⟨g4, 0, none⟩ = some (.int .u16 a.k)) (wc.drewN kd)) := Lib.hid HS.out
              generalize wc.drewN kd = wd at *
              go_wp2_with fail
              refine hK.out _ _ HS.out ?_
              clear hK K
              refine wpS_take HS (by kernel_rfl) (by intro W hW; clear hW; go_simp; try with_reducible rfl) ?_
              go_simp
              refine wpS_take HS (by kernel_rfl) (by intro W hW; clear hW; go_simp; try with_reducible rfl) ?_
              refine wpS_take HS (by kernel_rfl) (by intro W hW; clear hW; go_simp; try with_reducible rfl) ?_
              refine wpS_take HS (by kernel_rfl) (by intro W hW; clear hW; go_simp; try with_reducible rfl) ?_
              go_simp
              refine wpS_take HS (by kernel_rfl) (by intro W hW; clear hW; go_simp; try with_reducible rfl) ?_
              refine wpS_take HS (by kernel_rfl) (by intro W hW; clear hW; go_simp; try with_reducible rfl) ?_
              refine wpS_take HS (by kernel_rfl) (by intro W hW; clear hW; go_simp; try with_reducible rfl) ?_
              go_simp
              refine wpS_take HS (by kernel_rfl) (by intro W hW; clear hW; go_simp; try with_reducible rfl) ?_
              refine wpS_take HS (by kernel_rfl) (by intro W hW; clear hW; go_simp; try with_reducible rfl) ?_
              refine wpS_take HS (by kernel_rfl) (by intro W hW; clear hW; go_simp; try with_reducible rfl) ?_
              go_simp
              refine wpS_take HS (by kernel_rfl) (by intro W hW; clear hW; go_simp; try with_reducible rfl) ?_
              refine wpS_nil ?_
              go_simp
              go_wp2_with fail
              go_roundw
              case rel => exact ⟨i + 1, by go_num, by omega, HX7, HRow, HB⟩
              case measure => simp [intOf]; omega
      · obtain rfl : i = m := by omega
        have dm : decide ((i : Int) < (i : Int)) = false := decide_eq_false (by omega)
        go_wp2_with fail
        refine (lives_any wr).mono ?_
        rintro e wl ⟨rfl, hbl2⟩
        go_wp2_with fail
        go_ret
        exact ⟨rfl, below_then HB.out hbl2⟩
end Go.Proofs.Ytbkejlalbjomkaa
