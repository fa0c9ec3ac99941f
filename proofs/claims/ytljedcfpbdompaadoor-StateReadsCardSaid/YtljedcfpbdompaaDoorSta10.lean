/-
  Seal.
-/
import Derived.Test.YtljedcfpbdompaaDoorSta4
namespace Go.Proofs.YtljedcfpbdompaaDoor
set_option linter.unusedVariables false
open Go.RowKit Go.ChangeShapes Go.WideShapes

/-- A head with its length. -/
@[reducible] def lenH (h : Hd) (n : Int) : Hd := ⟨h.age, h.opts, h.typ, h.id, h.adv, h.seq, h.sum, n⟩
/-- A head sealed. -/
def sumOf (h : Hd) (n : Int) (B : List Int) : Int := fl 14 ((hdB (lenH h n) ++ B).drop 2)
@[reducible] def sealH (h : Hd) (n : Int) (B : List Int) : Hd := ⟨h.age, h.opts, h.typ, h.id, h.adv, h.seq, sumOf h n B, n⟩
theorem fl_range (i : Nat) (xs : List Int) : 257 ≤ fl i xs ∧ fl i xs ≤ 65535 := by
  unfold fl
  have a := fun v => wh_range v
  simp only
  have a1 := a ((((xs.length : Int) - i) % 255 - 1) * (S0 (holed i xs) % 255) - S1 (holed i xs) % 255)
  have a2 := a (S1 (holed i xs) % 255 - ((xs.length : Int) - i) % 255 * (S0 (holed i xs) % 255))
  omega
/-- What Seal leaves. -/
structure SealS (w w' : World) (s s' : SE) : Prop where
  h : s'.h = sealH s.h (20 + s.n) s.B
  B : s'.B = s.B
  n : s'.n = s.n
  ok : s'.ok w.heap.size w'
set_option maxRecDepth 100000 in
set_option maxHeartbeats 8000000 in
theorem seal_no (s : SE) (w : World) (hs : s.rd w) (hn : 65515 < s.n) : Calls Tryd.prog 47 #[s.v] w fun e w' => e = .returned (.tuple #[zeroSt, .int .i64 11]) ∧ Below w.heap.size w w' := by
  obtain ⟨h, A, n, c, B⟩ := s
  have hn1 : n ≤ 1099511627776 := hs.len
  have hn2 : 65515 < n := hn
  have hw : IntKind.i64.wrap (20 + (n : Int)) = 20 + n := by rw [IntKind.wrap_i64]; omega
  have hd : decide (65535 < 20 + (n : Int)) = true := decide_eq_true (by omega)
  have HZ : Hid (Blk ((w.alloc (.cells (stC h A n c) 33)).alloc (.cells zC 33)) (w.heap.size + 1) 33 zC) := new_at _ _ _
  have HB : Hid (Below w.heap.size w ((w.alloc (.cells (stC h A n c) 33)).alloc (.cells zC 33))) := below_two _ _ _
  clear hs hn
  show Calls Tryd.prog 47 #[stV h A n c] w _
  go_enter Tryd.func47, Tryd.ntmps47
  unfold stC zC at *
  go_wp2_with (refine wpList_store_row rfl 33 _ _ rfl (w.heap.size + 1) #[.int .u16 0, .int .u8 0, .int .u8 0, .int .u32 0, .int .u32 0, .int .i32 0, .int .u16 0, .int .u16 0, .slice none 0 0] rfl rfl 33 _ HZ.out info_state rfl (by simp [Value.oneCell']) ?_)
  exact bodyPost_ret (results_cell_row_tmp rfl _ _ (w.heap.size + 1) 33 #[.int .u16 0, .int .u8 0, .int .u8 0, .int .u32 0, .int .u32 0, .int .i32 0, .int .u16 0, .int .u16 0, .slice none 0 0] (0, 0) _ rfl (HZ.out.setRow _) Tryd.underlying33 rfl info_state) rfl ⟨rfl, below_setRow HB.out (by omega) _⟩
set_option maxRecDepth 100000 in
set_option maxHeartbeats 8000000 in
theorem seal_yes (s : SE) (w : World) (hs : s.rd w) (hn : s.n ≤ 65515) : Calls Tryd.prog 47 #[s.v] w fun e w' => ∃ s', e = .returned (.tuple #[s'.v, .int .i64 0]) ∧ SealS w w' s s' ∧ Below w.heap.size w w' := by
  obtain ⟨h, A, n, c, B⟩ := s
  have HO := Lib.hid hs
  have hn2 : n ≤ 65515 := hn
  have hBl : B.length = n := hs.bl
  have hw : IntKind.i64.wrap (20 + (n : Int)) = 20 + n := by rw [IntKind.wrap_i64]; omega
  have hw16 : IntKind.u16.wrap (20 + (n : Int)) = 20 + n := by simp [IntKind.wrap, IntKind.bits, IntKind.signed]; omega
  have hd : decide (65535 < 20 + (n : Int)) = false := decide_eq_false (by omega)
  have HBl := Lib.hid hBl
  have HZ : Hid (Blk ((w.alloc (.cells (stC h A n c) 33)).alloc (.cells zC 33)) (w.heap.size + 1) 33 zC) := new_at _ _ _
  have HX : Hid (Blk ((w.alloc (.cells (stC h A n c) 33)).alloc (.cells zC 33)) w.heap.size 33 (stC h A n c)) := Lib.hid ((Blk.new _ _ _).alloc _)
  have HB : Hid (Below w.heap.size w ((w.alloc (.cells (stC h A n c) 33)).alloc (.cells zC 33))) := below_two _ _ _
  clear hs hn hBl
  show Calls Tryd.prog 47 #[stV h A n c] w _
  go_enter Tryd.func47, Tryd.ntmps47
  unfold stC zC at *
  go_wp2_with fail
  generalize hgs : w.heap.size = gs at *
  generalize hgz : gs + 1 = gz at *
  have HG := Lib.hid (And.intro hgs hgz)
  clear hgs hgz
  generalize (w.alloc (.cells #[.int .u16 h.age, .int .u8 h.opts, .int .u8 h.typ, .int .u32 h.id, .int .u32 h.adv, .int .i32 h.seq, .int .u16 h.sum, .int .u16 h.len, .slice A n c] 33)).alloc (.cells #[.int .u16 0, .int .u8 0, .int .u8 0, .int .u32 0, .int .u32 0, .int .i32 0, .int .u16 0, .int .u16 0, .slice none 0 0] 33) = w1 at *
  refine (clone_any A n c B w1 (HO.out.body.later (by rw [HG.out.1]; exact HB.out)) (by omega)).mono ?_
  rintro e w2 ⟨v, rfl, ho, hb2⟩
  rw [HBl.out] at ho
  obtain ⟨A2, c2, hv, hc2, hm2, hr2⟩ := own_shape ho
  subst hv
  have x2 := HX.out.later hb2
  have z2 := HZ.out.later hb2
  have HB2 : Hid (Below w.heap.size w w2) := Lib.hid (below_then (by rw [HG.out.1]; exact HB.out) hb2)
  have HG2 := Lib.hid (And.intro HX.out.lt HZ.out.lt)
  -- the state is written cell by cell
  have k8 := kept_setC w2 gs 8 (.slice A2 n c2)
  have k7 := kept_setC (w2.setCell ⟨gs, 8, none⟩ (.slice A2 n c2)) gs 7 (.int .u16 (20 + (n : Int)))
  have k78 := k8.trans k7 (fun _ _ e => e)
  have x4 : Blk ((w2.setCell ⟨gs, 8, none⟩ (.slice A2 n c2)).setCell ⟨gs, 7, none⟩ (.int .u16 (20 + (n : Int)))) gs 33 (stC (lenH h (20 + n)) A2 n c2) := (x2.set_ 8 _).set_ 7 _
  have hne : gz ≠ gs := by have := HG.out; omega
  have z4 := z2.kept k78 hne
  have hog : ∀ i, (Value.slice A2 n c2).ownBlock = some i → i ≠ gs := fun i hi e => by have := (own_ge ho hi).1; have := HG2.out.1; omega
  have o4 := own_kept ho k78 hog
  have b4 : Below w.heap.size w ((w2.setCell ⟨gs, 8, none⟩ (.slice A2 n c2)).setCell ⟨gs, 7, none⟩ (.int .u16 (20 + (n : Int)))) := HB2.out.trans (k78.below (fun i e => by rw [HG.out.1]; omega) HB2.out.size)
  have H4 := Lib.hid (And.intro x4 (And.intro z4 (And.intro o4 b4)))
  obtain ⟨y0, y1, y2, y3, y4, y5, y6, y7, y8⟩ := stC_facts x2
  have f8 := x2.frozen 8
  have f7 := x2.frozen 7
  have e7 : (w2.setCell ⟨gs, 8, none⟩ (.slice A2 n c2)).frozen? ⟨gs, 7, none⟩ = false := (x2.set_ 8 _).frozen 7
  obtain ⟨q0, q1, q2, q3, q4, q5, q6, q7, q8⟩ := stC_facts x4
  have HR1 := Lib.hid (And.intro hc2 hm2)
  clear ho hb2 x2 z2 k8 k7 k78 x4 z4 o4 b4 hog hr2 hc2 hm2
  go_wp2_with fail
  generalize (w2.setCell ⟨gs, 8, none⟩ (.slice A2 n c2)).setCell ⟨gs, 7, none⟩ (.int .u16 (20 + (n : Int))) = w4 at *
  clear y0 y1 y2 y3 y4 y5 y6 y7 y8 f8 f7 e7 q0 q1 q2 q3 q4 q5 q6 q7 q8
  have hrd : SE.rd w4 ⟨lenH h (20 + n), A2, n, c2, B⟩ := by
    have ok := HO.out.head
    obtain ⟨A9, c9, e9, -, -, hr9⟩ := own_shape H4.out.2.2.1
    injection e9 with e9 _ e9'
    subst e9 e9'
    exact ⟨⟨ok.age, ok.opts, ok.typ, ok.id, ok.adv, ok.seq, ok.sum, by show 0 ≤ 20 + (n : Int) ∧ 20 + (n : Int) ≤ 65535; omega⟩, hr9, HO.out.oct, HR1.out, by show n ≤ 1099511627776; omega⟩
  refine (bytes_any ⟨lenH h (20 + n), A2, n, c2, B⟩ w4 hrd (by show n ≤ 1073741824; omega)).mono ?_
  rintro e w5 ⟨u, rfl, hu, hb5⟩
  replace hu : w5.ownsRow w4.heap.size 5 1 u (20 + n) (u8s (stB ⟨lenH h (20 + n), A2, n, c2, B⟩)) := hu
  obtain ⟨A5, c5, hv5, hc5, hm5, hr5⟩ := own_shape hu
  subst hv5
  have hoct : Oct (stB ⟨lenH h (20 + n), A2, n, c2, B⟩) := Oct.append (hdB_oct hrd.head) HO.out.oct
  have HC5 := Lib.hid (hr5.u8cutc (k := 2) (by omega) (by decide))
  have HC6 := Lib.hid (And.intro (hoct.drop 2) (And.intro hc5 hm5))
  have hcne : ¬ c5 = 2 := by omega
  have hle2 : (2 : Int) ≤ 20 + (n : Int) := by omega
  have x5 := H4.out.1.later hb5
  have z5 := H4.out.2.1.later hb5
  have o5 := own_kept H4.out.2.2.1 (Kept.of_new hb5 (fun _ => False)) (fun _ _ h => h)
  have b5 := below_then H4.out.2.2.2 hb5
  have H5 := Lib.hid (And.intro x5 (And.intro z5 (And.intro o5 b5)))
  clear hu hr5 hoct hc5 hm5 hb5 x5 z5 o5 b5 hrd H4
  go_wp2_with fail
  obtain ⟨sm, hsm⟩ : ∃ sm, sumOf h (20 + n) B = sm := ⟨_, rfl⟩
  have HF : Hid (fl 14 ((stB ⟨lenH h (20 + n), A2, n, c2, B⟩).drop 2) = sm) := Lib.hid hsm
  have HSm := Lib.hid hsm
  clear hsm
  have HFr := fl_range 14 ((stB ⟨lenH h (20 + n), A2, n, c2, B⟩).drop 2)
  rw [HF.out] at HFr
  have hfl := fletcher_any _ (20 + n - 2) (c5 - 2) _ 14 w5 HC5.out HC6.out.1 (by have := HC6.out.2; omega) (by have := HC6.out.2; omega) (by omega) (by omega)
  rw [HF.out] at hfl
  refine hfl.mono ?_
  clear hfl HC5
  rintro e w6 ⟨rfl, hb6⟩
  have x6 := H5.out.1.later hb6
  have z6 := H5.out.2.1.later hb6
  have o6 := own_kept H5.out.2.2.1 (Kept.of_new hb6 (fun _ => False)) (fun _ _ h => h)
  have b6 := below_then H5.out.2.2.2 hb6
  have k6 := kept_setC w6 gs 6 (.int .u16 sm)
  have x7 : Blk (w6.setCell ⟨gs, 6, none⟩ (.int .u16 sm)) gs 33 (stC ⟨h.age, h.opts, h.typ, h.id, h.adv, h.seq, sm, 20 + n⟩ A2 n c2) := x6.set_ 6 _
  have z7 := z6.kept k6 hne
  have hog : ∀ i, (Value.slice A2 n c2).ownBlock = some i → i ≠ gs ∧ i ≠ gz := fun i hi => by have h1 := (own_ge H5.out.2.2.1 hi).1; have h2 := HG2.out; exact ⟨by omega, by omega⟩
  have o7 := own_kept o6 k6 (fun i hi e => (hog i hi).1 e)
  have b7 : Below w.heap.size w (w6.setCell ⟨gs, 6, none⟩ (.int .u16 sm)) := b6.trans (k6.below (fun i e => by rw [HG.out.1]; have h2 : i = gs := e; omega) b6.size)
  have H7 := Lib.hid (And.intro x7 (And.intro z7 (And.intro o7 b7)))
  have HOG := Lib.hid hog
  have f6 := x6.frozen 6
  obtain ⟨y0, y1, y2, y3, y4, y5, y6, y7, y8⟩ := stC_facts x6
  obtain ⟨q0, q1, q2, q3, q4, q5, q6, q7, q8⟩ := stC_facts x7
  clear hb6 x6 z6 o6 b6 k6 x7 z7 o7 b7 hog H5
  go_wp2_with (refine wpList_store_row rfl 33 _ _ rfl gz #[.int .u16 h.age, .int .u8 h.opts, .int .u8 h.typ, .int .u32 h.id, .int .u32 h.adv, .int .i32 h.seq, .int .u16 (sm), .int .u16 (20 + (n : Int)), .slice A2 n c2] rfl rfl 33 _ H7.out.2.1 info_state rfl (by simp [Value.oneCell']) ?_)
  refine bodyPost_ret (results_cell_row_tmp rfl _ _ gz 33 #[.int .u16 h.age, .int .u8 h.opts, .int .u8 h.typ, .int .u32 h.id, .int .u32 h.adv, .int .i32 h.seq, .int .u16 sm, .int .u16 (20 + (n : Int)), .slice A2 n c2] (0, 0) _ rfl (H7.out.2.1.setRow _) Tryd.underlying33 rfl info_state) rfl ⟨⟨⟨h.age, h.opts, h.typ, h.id, h.adv, h.seq, sm, 20 + n⟩, A2, n, c2, B⟩, rfl, ⟨?_, rfl, rfl, ⟨?_, ?_, HO.out.oct, by show n ≤ 1099511627776; omega⟩⟩, ?_⟩
  · show _ = (⟨h.age, h.opts, h.typ, h.id, h.adv, h.seq, sumOf h (20 + n) B, 20 + n⟩ : Hd)
    rw [HSm.out]
  · have ok := HO.out.head
    exact ⟨ok.age, ok.opts, ok.typ, ok.id, ok.adv, ok.seq, by show 0 ≤ sm ∧ sm ≤ 65535; omega, by show 0 ≤ 20 + (n : Int) ∧ 20 + (n : Int) ≤ 65535; omega⟩
  · refine own_mono (own_kept H7.out.2.2.1 ((Kept.of_grown (only_setRow _ gz _)).mono (T := fun i => i = gz) fun i _ e => by simpa using e.symm) (fun i hi e => (HOG.out i hi).2 e)) ?_
    have h1 := HB.out.size
    have h2 := HG.out.1
    omega
  · exact below_setRow H7.out.2.2.2 (by have := HG.out; omega) _
end Go.Proofs.YtljedcfpbdompaaDoor
