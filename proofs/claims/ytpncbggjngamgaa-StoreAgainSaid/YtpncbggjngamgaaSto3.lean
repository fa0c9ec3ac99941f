/-
  A state of the store as old as a time says. Printed by gen_sto3.py.
-/
import Derived.Test.YtpncbggjngamgaaSto2
namespace Go.Proofs.Ytpncbggjngamgaa
set_option linter.unusedVariables false
open Go.RowKit

def OneE.headAt (x : OneE) (t : Int) : Hd := ⟨x.age t, x.s.h.opts, x.s.h.typ, x.s.h.id, x.s.h.adv, x.s.h.seq, x.s.h.sum, x.s.h.len⟩
theorem own_cells {w : World} {base size n g : Nat} {e t : TypeId} {v : Value} {xs : List Value} {cs : Array Value} (h : w.ownsRow base e size v n xs) (hg : Blk w g t cs) (hne : e ≠ t) (i : Nat) (u : Value) : (w.setCell ⟨g, i, none⟩ u).ownsRow base e size v n xs :=
  ownsRow_setCell_other h (a := ⟨g, i, none⟩) ((OwnW.of_own h).ne_blk hg hne) u
theorem own_row {w : World} {base size n g : Nat} {e t : TypeId} {v : Value} {xs : List Value} {cs : Array Value} (h : w.ownsRow base e size v n xs) (hg : Blk w g t cs) (hne : e ≠ t) (cs' : Array Value) : (w.setRow g cs').ownsRow base e size v n xs := by
  have hn := (OwnW.of_own h).ne_blk hg hne
  refine ⟨h.1, ?_⟩
  rcases h.2 with h | ⟨g2, cap, cur, hv, hb, hk, r⟩
  · exact .inl h
  · refine .inr ⟨g2, cap, cur, hv, hb, ?_, r⟩
    have hne2 : g2 ≠ g := fun e1 => hn (by rw [hv, e1]; rfl)
    exact (Blk.setRow_far (show Blk w g2 e cur from hk) hne2 cs')
def ThenAt (w w' : World) (x : OneE) (now : Int) (e : Ending) : Prop :=
  ∃ s' : SE, e = .returned s'.v ∧ s'.h = x.headAt now ∧ s'.ok w.heap.size w' ∧ s'.B = x.s.B ∧ s'.n = x.s.n ∧ Below w.heap.size w w'
theorem own_shape_n {w : World} {base size n : Nat} {e : TypeId} {v : Value} {xs : List Value} (h : w.ownsRow base e size v n xs) : ∃ A c, v = .slice A n c ∧ n ≤ c ∧ c ≤ 9223372036854775807 ∧ Reads w w.heap.size size A n xs := by
  have hh := h
  rcases h.2 with ⟨rfl, rfl⟩ | ⟨g', cap, cur, rfl, _, hk, hc, hm, _⟩
  · exact ⟨none, 0, rfl, Nat.le_refl _, by omega, Reads.of_own hh⟩
  · exact ⟨some ⟨g', 0, none⟩, cap, rfl, hc, by unfold maxLen at hm; exact hm, Reads.of_own hh⟩
set_option maxRecDepth 100000 in
set_option maxHeartbeats 8000000 in
theorem then_any (x : OneE) (now : Int) (w : World) (hx : x.s.rd w) (ha : 0 ≤ x.at_ ∧ x.at_ ≤ 9223372036854775807) (hn : 0 ≤ now ∧ now ≤ 9223372036854775807) :
    Calls Try.prog 61 #[x.v, .int .i64 now] w fun e w' => ThenAt w w' x now e := by
  obtain ⟨⟨⟨yage, yopts, ytyp, yid, yadv, yseq, ysum, ylen⟩, yA, yn, yc, yB⟩, yat⟩ := x
  simp only at ha
  have HX := Lib.hid hx
  have H2 : Hid (Blk ((w.alloc (.cells #[.int .u16 yage, .int .u8 yopts, .int .u8 ytyp, .int .u32 yid, .int .u32 yadv, .int .i32 yseq, .int .u16 ysum, .int .u16 ylen, .slice yA yn yc, .int .i64 yat] 103)).alloc (.cells #[.int .u16 0, .int .u8 0, .int .u8 0, .int .u32 0, .int .u32 0, .int .i32 0, .int .u16 0, .int .u16 0, .slice none 0 0] 31)) w.heap.size 103 #[.int .u16 yage, .int .u8 yopts, .int .u8 ytyp, .int .u32 yid, .int .u32 yadv, .int .i32 yseq, .int .u16 ysum, .int .u16 ylen, .slice yA yn yc, .int .i64 yat] ∧ Blk ((w.alloc (.cells #[.int .u16 yage, .int .u8 yopts, .int .u8 ytyp, .int .u32 yid, .int .u32 yadv, .int .i32 yseq, .int .u16 ysum, .int .u16 ylen, .slice yA yn yc, .int .i64 yat] 103)).alloc (.cells #[.int .u16 0, .int .u8 0, .int .u8 0, .int .u32 0, .int .u32 0, .int .i32 0, .int .u16 0, .int .u16 0, .slice none 0 0] 31)) (w.heap.size + 1) 31 #[.int .u16 0, .int .u8 0, .int .u8 0, .int .u32 0, .int .u32 0, .int .i32 0, .int .u16 0, .int .u16 0, .slice none 0 0] ∧ Below w.heap.size w ((w.alloc (.cells #[.int .u16 yage, .int .u8 yopts, .int .u8 ytyp, .int .u32 yid, .int .u32 yadv, .int .i32 yseq, .int .u16 ysum, .int .u16 ylen, .slice yA yn yc, .int .i64 yat] 103)).alloc (.cells #[.int .u16 0, .int .u8 0, .int .u8 0, .int .u32 0, .int .u32 0, .int .i32 0, .int .u16 0, .int .u16 0, .slice none 0 0] 31))) := Lib.hid ⟨(Blk.new w 103 #[.int .u16 yage, .int .u8 yopts, .int .u8 ytyp, .int .u32 yid, .int .u32 yadv, .int .i32 yseq, .int .u16 ysum, .int .u16 ylen, .slice yA yn yc, .int .i64 yat]).alloc _, new_at w _ _, below_two w _ _⟩
  have HA := Lib.hid (show 0 ≤ yage ∧ yage ≤ 65535 from hx.head.age)
  clear hx
  go_enter Try.func61, Try.ntmps61
  go_wp2_with fail
  have hs2 : ((w.alloc (.cells #[.int .u16 yage, .int .u8 yopts, .int .u8 ytyp, .int .u32 yid, .int .u32 yadv, .int .i32 yseq, .int .u16 ysum, .int .u16 ylen, .slice yA yn yc, .int .i64 yat] 103)).alloc (.cells #[.int .u16 0, .int .u8 0, .int .u8 0, .int .u32 0, .int .u32 0, .int .i32 0, .int .u16 0, .int .u16 0, .slice none 0 0] 31)).heap.size = w.heap.size + 1 + 1 := by simp
  generalize (w.alloc (.cells #[.int .u16 yage, .int .u8 yopts, .int .u8 ytyp, .int .u32 yid, .int .u32 yadv, .int .i32 yseq, .int .u16 ysum, .int .u16 ylen, .slice yA yn yc, .int .i64 yat] 103)).alloc (.cells #[.int .u16 0, .int .u8 0, .int .u8 0, .int .u32 0, .int .u32 0, .int .i32 0, .int .u16 0, .int .u16 0, .slice none 0 0] 31) = w1 at *
  have hb2 := (Below.refl w1.heap.size w1).alloc (Nat.le_refl _) (.cells #[.int .u16 yage, .int .u8 yopts, .int .u8 ytyp, .int .u32 yid, .int .u32 yadv, .int .i32 yseq, .int .u16 ysum, .int .u16 ylen, .slice yA yn yc] 31)
  have HO := Lib.hid (H2.out.1.later hb2)
  have HR := Lib.hid (H2.out.2.1.later hb2)
  have hst := Blk.new w1 31 #[.int .u16 yage, .int .u8 yopts, .int .u8 ytyp, .int .u32 yid, .int .u32 yadv, .int .i32 yseq, .int .u16 ysum, .int .u16 ylen, .slice yA yn yc]
  rw [hs2] at hst
  have HSt := Lib.hid hst
  have HB2 := Lib.hid (below_then H2.out.2.2 hb2)
  have HX2 := Lib.hid (HX.out.later HB2.out)
  clear hb2 hst hs2 H2
  generalize w1.alloc (.cells #[.int .u16 yage, .int .u8 yopts, .int .u8 ytyp, .int .u32 yid, .int .u32 yadv, .int .i32 yseq, .int .u16 ysum, .int .u16 ylen, .slice yA yn yc] 31) = w2 at *
  obtain ⟨gx, hgx⟩ : ∃ gx, w.heap.size = gx := ⟨_, rfl⟩
  rw [hgx] at HO HR HSt HB2 ⊢
  refine (clone_any yA yn yc yB w2 HX2.out.body (by have := HX2.out.len; simp only at this; omega)).mono ?_
  rintro e w3 ⟨v, rfl, hown, hb3⟩
  have hbl : yB.length = yn := HX.out.bl
  rw [hbl] at hown
  obtain ⟨vA, vc, rfl, hvc, hvm, hvr⟩ := own_shape_n hown
  have HW := Lib.hid (own_mono hown (by have := HB2.out.size; omega : w.heap.size ≤ w2.heap.size))
  replace HO := Lib.hid (HO.out.later hb3)
  replace HR := Lib.hid (HR.out.later hb3)
  replace HSt := Lib.hid (HSt.out.later hb3)
  have HB3 : Hid (Below gx w w3) := Lib.hid (HB2.out.trans (hb3.mono (by have := HB2.out.size; omega)))
  have hvs := hvr
  clear hown hb3 HB2 HX2 hvr
  have c8 := HSt.out.cell 8; have f8 := HSt.out.frozen 8
  simp only [List.getElem?_toArray, List.getElem?_cons_zero, List.getElem?_cons_succ] at c8
  have HSx : Hid (Blk (w3.setCell ⟨gx + 1 + 1, 8, none⟩ (.slice vA yn vc)) (gx + 1 + 1) 31 #[.int .u16 yage, .int .u8 yopts, .int .u8 ytyp, .int .u32 yid, .int .u32 yadv, .int .i32 yseq, .int .u16 ysum, .int .u16 ylen, .slice vA yn vc]) := Lib.hid (HSt.out.set_ 8 (.slice vA yn vc))
  have HO4 : Hid (Blk (w3.setCell ⟨gx + 1 + 1, 8, none⟩ (.slice vA yn vc)) gx 103 #[.int .u16 yage, .int .u8 yopts, .int .u8 ytyp, .int .u32 yid, .int .u32 yadv, .int .i32 yseq, .int .u16 ysum, .int .u16 ylen, .slice yA yn yc, .int .i64 yat]) := Lib.hid (HO.out.far (p := ⟨gx + 1 + 1, 8, none⟩) (by simp; omega) _)
  have HR5 : Hid (Blk (w3.setCell ⟨gx + 1 + 1, 8, none⟩ (.slice vA yn vc)) (gx + 1) 31 #[.int .u16 0, .int .u8 0, .int .u8 0, .int .u32 0, .int .u32 0, .int .i32 0, .int .u16 0, .int .u16 0, .slice none 0 0]) := Lib.hid (HR.out.far (p := ⟨gx + 1 + 1, 8, none⟩) (by simp) _)
  have HB5 : Hid (Below gx w (w3.setCell ⟨gx + 1 + 1, 8, none⟩ (.slice vA yn vc))) := Lib.hid (HB3.out.setCell (p := ⟨gx + 1 + 1, 8, none⟩) (by simp; omega) _)
  have o9 : (w3.setCell ⟨gx + 1 + 1, 8, none⟩ (.slice vA yn vc)).cell? ⟨gx, 9, none⟩ = some (.int .i64 yat) := HO4.out.cell 9
  by_cases hlt : yat < now
  · have dlt : decide (yat < now) = true := decide_eq_true hlt
    have s0 : (w3.setCell ⟨gx + 1 + 1, 8, none⟩ (.slice vA yn vc)).cell? ⟨gx + 1 + 1, 0, none⟩ = some (.int .u16 yage) := HSx.out.cell 0
    have f0 := HSx.out.frozen 0
    have hwr : IntKind.i64.wrap (now - yat) = now - yat := by rw [IntKind.wrap_i64]; omega
    have HS6 : Hid (Blk ((w3.setCell ⟨gx + 1 + 1, 8, none⟩ (.slice vA yn vc)).setCell ⟨gx + 1 + 1, 0, none⟩ (.int .u16 (laterA yage (now - yat)))) (gx + 1 + 1) 31 #[.int .u16 (laterA yage (now - yat)), .int .u8 yopts, .int .u8 ytyp, .int .u32 yid, .int .u32 yadv, .int .i32 yseq, .int .u16 ysum, .int .u16 ylen, .slice vA yn vc]) := Lib.hid (HSx.out.set_ 0 _)
    have HR6 : Hid (Blk ((w3.setCell ⟨gx + 1 + 1, 8, none⟩ (.slice vA yn vc)).setCell ⟨gx + 1 + 1, 0, none⟩ (.int .u16 (laterA yage (now - yat)))) (gx + 1) 31 #[.int .u16 0, .int .u8 0, .int .u8 0, .int .u32 0, .int .u32 0, .int .i32 0, .int .u16 0, .int .u16 0, .slice none 0 0]) := Lib.hid (HR5.out.far (p := ⟨gx + 1 + 1, 0, none⟩) (by simp) _)
    have HB6 : Hid (Below gx w ((w3.setCell ⟨gx + 1 + 1, 8, none⟩ (.slice vA yn vc)).setCell ⟨gx + 1 + 1, 0, none⟩ (.int .u16 (laterA yage (now - yat))))) := Lib.hid (HB5.out.setCell (p := ⟨gx + 1 + 1, 0, none⟩) (by simp; omega) _)
    have HOW := Lib.hid (own_cells (own_cells HW.out HSt.out (by decide) 8 (.slice vA yn vc)) HSx.out (by decide) 0 (.int .u16 (laterA yage (now - yat))))
    go_wp2_with (first
      | (go_at_call 79; refine (age_any yage (now - yat) _ HA.out.1 HA.out.2).mono ?_; rintro e w' ⟨rfl, rfl⟩)
      | (refine wpList_load_row rfl 31 _ rfl (gx + 1 + 1) rfl 31 #[.int .u16 (laterA yage (now - yat)), .int .u8 yopts, .int .u8 ytyp, .int .u32 yid, .int .u32 yadv, .int .i32 yseq, .int .u16 ysum, .int .u16 ylen, .slice vA yn vc] (0, 0) _ HS6.out Try.underlying31 rfl info_state ?_)
      | (refine wpList_store_row rfl 31 _ _ rfl (gx + 1) #[.int .u16 (laterA yage (now - yat)), .int .u8 yopts, .int .u8 ytyp, .int .u32 yid, .int .u32 yadv, .int .i32 yseq, .int .u16 ysum, .int .u16 ylen, .slice vA yn vc] rfl rfl 31 _ HR6.out info_state rfl (by simp [Value.oneCell']) ?_))
    refine bodyPost_ret (results_cell_row rfl _ _ (gx + 1) 31 #[.int .u16 (laterA yage (now - yat)), .int .u8 yopts, .int .u8 ytyp, .int .u32 yid, .int .u32 yadv, .int .i32 yseq, .int .u16 ysum, .int .u16 ylen, .slice vA yn vc] (0, 0) _ rfl (HR6.out.setRow _) Try.underlying31 rfl info_state) rfl ?_
    refine ⟨⟨⟨laterA yage (now - yat), yopts, ytyp, yid, yadv, yseq, ysum, ylen⟩, vA, yn, vc, yB⟩, rfl, rfl, ?_, rfl, rfl, by rw [hgx]; exact below_setRow HB6.out (by omega) _⟩
    have hh := HX.out.head
    exact ⟨⟨laterA_rng HA.out.1 HA.out.2, hh.opts, hh.typ, hh.id, hh.adv, hh.seq, hh.sum, hh.len⟩, own_row HOW.out HR6.out (by decide) _, HX.out.oct, HX.out.len⟩
  · have dlt : decide (yat < now) = false := decide_eq_false hlt
    have HOW := Lib.hid (own_cells HW.out HSt.out (by decide) 8 (.slice vA yn vc))
    go_wp2_with (first
      | (refine wpList_load_row rfl 31 _ rfl (gx + 1 + 1) rfl 31 #[.int .u16 yage, .int .u8 yopts, .int .u8 ytyp, .int .u32 yid, .int .u32 yadv, .int .i32 yseq, .int .u16 ysum, .int .u16 ylen, .slice vA yn vc] (0, 0) _ HSx.out Try.underlying31 rfl info_state ?_)
      | (refine wpList_store_row rfl 31 _ _ rfl (gx + 1) #[.int .u16 yage, .int .u8 yopts, .int .u8 ytyp, .int .u32 yid, .int .u32 yadv, .int .i32 yseq, .int .u16 ysum, .int .u16 ylen, .slice vA yn vc] rfl rfl 31 _ HR5.out info_state rfl (by simp [Value.oneCell']) ?_))
    refine bodyPost_ret (results_cell_row rfl _ _ (gx + 1) 31 #[.int .u16 yage, .int .u8 yopts, .int .u8 ytyp, .int .u32 yid, .int .u32 yadv, .int .i32 yseq, .int .u16 ysum, .int .u16 ylen, .slice vA yn vc] (0, 0) _ rfl (HR5.out.setRow _) Try.underlying31 rfl info_state) rfl ?_
    have hage : laterA yage (now - yat) = yage := laterA_same (.inr (by omega))
    refine ⟨⟨⟨yage, yopts, ytyp, yid, yadv, yseq, ysum, ylen⟩, vA, yn, vc, yB⟩, rfl, ?_, ?_, rfl, rfl, by rw [hgx]; exact below_setRow HB5.out (by omega) _⟩
    · show _ = (⟨laterA yage (now - yat), yopts, ytyp, yid, yadv, yseq, ysum, ylen⟩ : Hd)
      rw [hage]
    · have hh := HX.out.head
      exact ⟨hh, own_row HOW.out HR5.out (by decide) _, HX.out.oct, HX.out.len⟩
end Go.Proofs.Ytpncbggjngamgaa
