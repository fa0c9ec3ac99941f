/-
  auth.password, walked.
-/
import Derived.Test.YtkgdeneonobibaaAut6
import Derived.Laws.CopyOwn
namespace Go.Proofs.Ytkgdeneonobibaa
set_option linter.unusedVariables false
open Go.RowKit

/-- Eight bytes of a secret. -/
def pw (bs : List Int) : List Int := bs.take 8 ++ List.replicate (8 - bs.length) 0
theorem pw_length (bs : List Int) : (pw bs).length = 8 := by unfold pw; rw [List.length_append, List.length_take, List.length_replicate]; omega
theorem splice_pw (ks : List Int) : splice (List.replicate 8 (Value.int .u8 0)) 0 (u8s (ks.take 8)) = u8s (pw ks) := by
  unfold splice pw
  rw [u8s_append, List.take_zero, List.nil_append, List.drop_replicate]
  congr 1
  rw [u8s_length, List.length_take]
  unfold u8s
  rw [List.map_replicate]
  congr 1
  omega
theorem u8s_take8_at {w : World} {A : Option Addr} {B n : Nat} {ks : List Int} (h : Reads w B 1 A n (u8s ks)) (h0 : 0 < (u8s (ks.take 8)).length) :
    ∃ ad, A = some ad ∧ ∀ j v, (u8s (ks.take 8))[j]? = some v → w.cell? (ad.add j) = some v := by
  have hl := h.u8len
  have hn : 0 < n := by rw [u8s_length, List.length_take] at h0; omega
  obtain ⟨ad, x, e, _, _, _⟩ := h.u8at hn
  refine ⟨ad, e, fun j v hv => ?_⟩
  rw [← u8s_take, List.getElem?_take] at hv
  split at hv
  · have hj : j < n := by
      have := (List.getElem?_eq_some_iff.1 hv).1
      rw [u8s_length] at this; omega
    obtain ⟨ad', u, e', _, hu, hc⟩ := h.at_ hj
    rw [e] at e'
    obtain rfl := Option.some.inj e'
    rw [hu] at hv
    rw [hc, ← hv]
  · simp at hv
theorem i8 : (Try.prog.info? 75).map (·.size) = some 8 := by kernel_rfl
@[reducible] def z8 : Array Value := #[.int .u8 0, .int .u8 0, .int .u8 0, .int .u8 0, .int .u8 0, .int .u8 0, .int .u8 0, .int .u8 0]
theorem z8_eq : z8 = (List.replicate 8 (Value.int .u8 0)).toArray := by simp [List.replicate]
structure Two2 (g : Nat) (w W : World) (cs : Array Value) : Prop where
  a : Blk W g 70 cs
  b : Blk W (g + 1) 75 z8
  c : Below g w W
set_option maxRecDepth 100000 in
set_option maxHeartbeats 2000000 in
theorem password_any (k : AK) (w : World) (hk : KOk w k) : Calls Try.prog 46 #[k.v] w fun e w' => e = .returned (.agg (u8s (pw k.bs)).toArray) ∧ Below w.heap.size w w' := by
  obtain ⟨id, kind, A, n, c, sf, su, tf, tu, bs⟩ := k
  have hl : bs.length = n := hk.sec.u8len
  have HX : Hid (Reads w w.heap.size 1 A n (u8s bs)) := hk.sec
  clear hk
  have H2 : Hid (Two2 w.heap.size w ((w.alloc (.cells #[.int .u8 id, .int .u16 kind, .slice A n c, .int .i64 sf, .int .i64 su, .int .i64 tf, .int .i64 tu] 70)).alloc (.cells z8 75)) #[.int .u8 id, .int .u16 kind, .slice A n c, .int .i64 sf, .int .i64 su, .int .i64 tf, .int .i64 tu] ∧
    Reads ((w.alloc (.cells #[.int .u8 id, .int .u16 kind, .slice A n c, .int .i64 sf, .int .i64 su, .int .i64 tf, .int .i64 tu] 70)).alloc (.cells z8 75)) w.heap.size 1 A n (u8s bs)) :=
    ⟨⟨(Blk.new _ _ _).alloc _, new_at _ _ _, ((Below.refl _ _).alloc (Nat.le_refl _) _).alloc (by rw [World.size_alloc]; omega) _⟩, (HX.out.alloc (Nat.le_refl _) _).alloc (by rw [World.size_alloc]; omega) _⟩
  clear HX
  go_enter Try.func46, Try.ntmps46
  go_wp2
  have HS : Hid ((fun W : World => Blk W w.heap.size 70 #[.int .u8 id, .int .u16 kind, .slice A n c, .int .i64 sf, .int .i64 su, .int .i64 tf, .int .i64 tu]) ((w.alloc (.cells #[.int .u8 id, .int .u16 kind, .slice A n c, .int .i64 sf, .int .i64 su, .int .i64 tf, .int .i64 tu] 70)).alloc (.cells z8 75)).drew) := H2.out.1.a
  refine wp_region_s (fun W : World => Blk W w.heap.size 70 #[.int .u8 id, .int .u16 kind, .slice A n c, .int .i64 sf, .int .i64 su, .int .i64 tf, .int .i64 tu]) [(0, true), (1, true), (2, true), (3, false)] (by kernel_rfl) (fun _ d _ _ _ h => by cases d <;> exact h) ?_
  simp only [List.map_cons, List.map_nil, nthOp_zero, nthOp_succ]
  have H3 : Hid (Blk ((w.alloc (.cells #[.int .u8 id, .int .u16 kind, .slice A n c, .int .i64 sf, .int .i64 su, .int .i64 tf, .int .i64 tu] 70)).alloc (.cells z8 75)).drew (w.heap.size + 1) 75 z8 ∧
    Below w.heap.size w ((w.alloc (.cells #[.int .u8 id, .int .u16 kind, .slice A n c, .int .i64 sf, .int .i64 su, .int .i64 tf, .int .i64 tu] 70)).alloc (.cells z8 75)).drew ∧
    Reads ((w.alloc (.cells #[.int .u8 id, .int .u16 kind, .slice A n c, .int .i64 sf, .int .i64 su, .int .i64 tf, .int .i64 tu] 70)).alloc (.cells z8 75)).drew w.heap.size 1 A n (u8s bs)) := ⟨H2.out.1.b, H2.out.1.c.drew, H2.out.2⟩
  clear H2
  generalize ((w.alloc (.cells #[.int .u8 id, .int .u16 kind, .slice A n c, .int .i64 sf, .int .i64 su, .int .i64 tf, .int .i64 tu] 70)).alloc (.cells z8 75)).drew = w1 at *
  refine wpS_take HS (by rfl) (by intro W hW; have j2 := hW.cell 2; clear hW; simp only [List.getElem?_toArray, List.getElem?_cons_zero, List.getElem?_cons_succ] at j2; go_simp; try with_reducible rfl) ?_
  refine wpS_take HS (by rfl) (by intro W hW; have j2 := hW.cell 2; clear hW; simp only [List.getElem?_toArray, List.getElem?_cons_zero, List.getElem?_cons_succ] at j2; go_simp; try with_reducible rfl) ?_
  refine wpS_take HS (by rfl) (by intro W hW; have j2 := hW.cell 2; clear hW; simp only [List.getElem?_toArray, List.getElem?_cons_zero, List.getElem?_cons_succ] at j2; go_simp; try with_reducible rfl) ?_
  refine wpS_do fun K1 hK1 => ?_
  obtain ⟨C, hC⟩ : ∃ C, C = u8s (bs.take 8) := ⟨_, rfl⟩
  have HC := Lib.hid hC
  have HCl : Hid (C.length = Nat.min n 8) := by
    show _ = _
    rw [hC, u8s_length, List.length_take, hl]; exact Nat.min_comm _ _
  have HC1 : Hid (∀ v ∈ C, v.oneCell' = true) := by rw [hC]; exact u8s_one
  clear hC
  have HP : Hid (0 < C.length → ∃ ad, A = some ad ∧ ∀ j v, C[j]? = some v → w1.cell? (ad.add j) = some v) := by
    intro h0
    rw [HC.out] at h0 ⊢
    exact u8s_take8_at H3.out.2.2 h0
  have HG : Hid (w1.heap[w.heap.size + 1]? = some (.cells (List.replicate 8 (.int .u8 0)).toArray 75 (0, 0))) := by rw [← z8_eq]; exact H3.out.1
  have HF : Hid (0 + C.length ≤ (List.replicate 8 (Value.int .u8 0)).length) := by
    show _ ≤ _
    rw [List.length_replicate, HCl.out]; have : Nat.min n 8 ≤ 8 := Nat.min_le_right n 8; omega
  have HBw : Hid (Below (w.heap.size + 1) w1 w1) := Below.refl _ _
  go_wp2_with (refine wpList_copy_splice (o := ⟨some 6, _, _, _, _, _⟩) rfl (.tmp 3) (.tmp 5) 32 32 rfl 5 rfl rfl _ _ _ _ _ _ rfl rfl (w.heap.size + 1) 0 (List.replicate 8 (.int .u8 0)) 75 HG.out C HCl.out (fun h0 => ⟨rfl, HP.out h0⟩) HF.out HC1.out (w.heap.size + 1) w1 HBw.out (Nat.le_refl _) ?_; intro w2 HG2 hb2)
  have HB2 : Hid (Below w.heap.size w w2) := H3.out.2.1.trans (hb2.mono (Nat.le_succ _))
  have HS2 : Blk w2 w.heap.size 70 #[.int .u8 id, .int .u16 kind, .slice A n c, .int .i64 sf, .int .i64 su, .int .i64 tf, .int .i64 tu] := HS.out.below hb2 (Nat.lt_succ_self _)
  refine hK1.out _ _ HS2 ?_
  clear hK1 K1
  rw [HC.out, splice_pw] at HG2
  have H8 : Hid (Blk w2 (w.heap.size + 1) 75 (u8s (pw bs)).toArray) := HG2
  have HR8 : Hid ((u8s (pw bs)).toArray.size = 8 ∧ (u8s (pw bs)).toArray.all (·.oneCell') = true) := ⟨by simp [u8s_length, pw_length], by simp [u8s, Value.oneCell']⟩
  refine wpS_nil ?_
  go_simp
  clear HG2 hb2 HS2 HS HG HF HP H3 HBw HC HCl HC1
  go_wp2_with (first
    | (refine wpList_load_row rfl 75 _ rfl (w.heap.size + 1) rfl 75 (u8s (pw bs)).toArray (0, 0) _ H8.out Try.underlying75 rfl (by rw [HR8.out.1]; exact i8) ?_)
    | (refine wpList_store_row rfl 75 _ _ rfl (w.heap.size + 1) (u8s (pw bs)).toArray rfl rfl 75 _ H8.out (by rw [HR8.out.1]; exact i8) rfl HR8.out.2 ?_))
  refine bodyPost_ret (results_cell_row rfl _ _ (w.heap.size + 1) 75 (u8s (pw bs)).toArray (0, 0) _ rfl (H8.out.setRow _) Try.underlying75 rfl (by rw [HR8.out.1]; exact i8)) rfl ⟨rfl, below_setRow HB2.out (Nat.le_succ _) _⟩
end Go.Proofs.Ytkgdeneonobibaa
