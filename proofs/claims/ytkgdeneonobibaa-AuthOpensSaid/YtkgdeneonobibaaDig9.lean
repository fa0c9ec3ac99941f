/-
  The keyed digest of the program, walked.
-/
import Derived.Test.YtkgdeneonobibaaDig8
import Derived.Test.YtkgdeneonobibaaDigS
import Derived.Laws.CopyOwn
import Derived.Test.YtkgdeneonobibaaRgn
namespace Go.Proofs.Ytkgdeneonobibaa
set_option linter.unusedVariables false
open Go.RowKit

/-- append as one step of a region that draws its order (nothing may be appended too). -/
theorem step_app {P : Program} {ops : Array Oper} {o : Oper} {a : Act} {K : Act → World → Prop} {Q : Exit → Act → World → Prop} {w : World} {E0 : Prop} {t e : TypeId} {size bytes : Nat} (E : El P t e size bytes)
    (hgd : o.guard = none) (s x : Operand) (ho : o.op = .call { callee := .builtin .append, args := #[s, x], argTypes := #[t, t] })
    {base : Nat} {v : Value} {n : Nat} {xs : List Value} (hown : w.ownsRow base e size v n xs) (hs : a.eval s = v)
    {B : Nat} {A : Option Addr} {m c : Nat} {news : List Value} (hr : Reads w B size A m news) (hx : a.eval x = .slice A m c) (h1 : ∀ u ∈ news, u.oneCell' = true)
    (h63 : n + m ≤ maxLen) (hbytes : (n + m) * bytes ≤ 140737488355328) (hbase : base ≤ w.heap.size)
    (h : ∀ v' w', w'.ownsRow base e size v' (n + m) (xs ++ news) → Below base w w' → w.grownBy w' v.ownBlock → (v'.ownBlock = v.ownBlock ∨ v'.ownBlock = some w.heap.size) → K (a.put o.dst v') w') :
    if Region.wanted o (yielded ops a.tmps) = true then Oper.wp P o a w K Q else E0 := by
  have hw : Region.wanted o (yielded ops a.tmps) = true := by simp [Region.wanted, hgd]
  rw [if_pos hw]
  obtain ⟨v', w', hrun, h2, h3, h4⟩ := run_app E o.type hown c hr h1 h63 hbytes hbase
  unfold Oper.wp execOp
  simp only [ho, resolve, invoke, builtin, Sem.run_bind, Sem.run_pure, Result.andThen_ok, List.map_toArray, List.map_cons, List.map_nil, hs, hx, hrun]
  exact h _ _ h2 (below_of_own hown h3 hbase) h3 h4
theorem splice_key (ks : List Int) : splice (List.replicate 16 (Value.int .u8 0)) 0 (u8s (ks.take 16)) = u8s (key16 ks) := by
  unfold splice key16
  rw [u8s_append, List.take_zero, List.nil_append, List.drop_replicate]
  congr 1
  simp [u8s]
  omega
theorem u8s_take_at {w : World} {A : Option Addr} {B n : Nat} {ks : List Int} (h : Reads w B 1 A n (u8s ks)) (h0 : 0 < (u8s (ks.take 16)).length) :
    ∃ ad, A = some ad ∧ ∀ j v, (u8s (ks.take 16))[j]? = some v → w.cell? (ad.add j) = some v := by
  have hl := h.u8len
  have hn : 0 < n := by rw [u8s_length, List.length_take] at h0; omega
  obtain ⟨ad, x, e, _, _, _⟩ := h.u8at hn
  refine ⟨ad, e, fun j v hv => ?_⟩
  rw [← u8s_take, List.getElem?_take] at hv
  split at hv
  · have hj : j < n := by
      have := (List.getElem?_eq_some_iff.1 hv).1
      rw [u8s_length] at this; omega
    obtain ⟨ad', u, e', _, hu, hc⟩ := h.at_ hj
    rw [e] at e'
    obtain rfl := Option.some.inj e'
    rw [hu] at hv
    rw [hc, ← hv]
  · simp at hv

set_option maxRecDepth 100000 in
set_option maxHeartbeats 1000000 in
theorem keyed_any (K A : Option Addr) (kn kc n c : Nat) (ks xs : List Int) (w : World) (hk : Reads w w.heap.size 1 K kn (u8s ks)) (hx : Reads w w.heap.size 1 A n (u8s xs)) (hko : Oct ks) (ho : Oct xs) (hn : n ≤ 1099511627000) (hkn : kn ≤ 9223372036854775807) :
    Calls Try.prog 74 #[.slice K kn kc, .slice A n c] w fun e w' => e = .returned (.agg (u8s (md (xs ++ key16 ks))).toArray) ∧ Below w.heap.size w w' := by
  have hlx := Lib.hid hx.u8len
  have hlk := Lib.hid hk.u8len
  have HK := Lib.hid hk
  have HXr := Lib.hid hx
  clear hk hx
  go_enter Try.func74, Try.ntmps74
  obtain ⟨C, hC⟩ : ∃ C, C = u8s (ks.take 16) := ⟨_, rfl⟩
  have HC := Lib.hid hC
  have HCl : Hid (C.length = Nat.min kn 16) := by
    show _ = _
    rw [hC, u8s_length, List.length_take, hlk.out]; exact Nat.min_comm _ _
  have HC1 : Hid (∀ v ∈ C, v.oneCell' = true) := by rw [hC]; exact u8s_one
  clear hC
  have HP : Hid (0 < C.length → ∃ ad, K = some ad ∧ ∀ j v, C[j]? = some v → ((w.alloc (.cells z16 122)).alloc (.cells z16 122)).cell? (ad.add j) = some v) := by
    intro h0
    rw [HC.out] at h0 ⊢
    exact u8s_take_at (((HK.out.alloc (Nat.le_refl _) _).more (by rw [World.size_alloc]; omega)).alloc (Nat.le_refl _) _) h0
  have HG : Hid (((w.alloc (.cells z16 122)).alloc (.cells z16 122)).heap[w.heap.size + 1]? = some (.cells (List.replicate 16 (.int .u8 0)).toArray 122 (0, 0))) := by
    have := Blk.new (w.alloc (.cells z16 122)) 122 z16
    rw [World.size_alloc] at this; exact this
  have HBw : Hid (Below (w.heap.size + 1) (w.alloc (.cells z16 122)) ((w.alloc (.cells z16 122)).alloc (.cells z16 122))) := (Below.refl _ _).alloc (by rw [World.size_alloc]; omega) _
  have HF : Hid (0 + C.length ≤ (List.replicate 16 (Value.int .u8 0)).length) := by
    show _ ≤ _
    rw [List.length_replicate, HCl.out]; have : Nat.min kn 16 ≤ 16 := Nat.min_le_right kn 16; omega
  go_wp2_with (refine wpList_copy_splice (o := ⟨some 8, _, _, _, _, _⟩) rfl (.tmp 6) (.tmp 7) 32 32 rfl 5 rfl rfl _ _ _ _ _ _ rfl rfl (w.heap.size + 1) 0 (List.replicate 16 (.int .u8 0)) 122 HG.out C HCl.out (fun h0 => ⟨rfl, HP.out h0⟩) HF.out HC1.out (w.heap.size + 1) (w.alloc (.cells z16 122)) HBw.out (Nat.le_refl _) ?_; intro w2 HG2 hb2)
  have hw16 : IntKind.i64.wrap ((n : Int) + 16) = (n : Int) + 16 := IntWalk.i64_in _ (by omega)
  have hmk := fun W => run_makeN (P := Try.prog) Try.underlying32 info_u8 rfl .i64 .i64 0 (n + 16) (by omega) (by omega) (by omega) W
  simp only [Int.natCast_zero, Int.natCast_add, show ((16 : Nat) : Int) = 16 from rfl] at hmk
  have hown0 : ∀ W : World, Hid ((W.alloc (.cells (madeCells #[Value.int .u8 0] (n + 16)) 5)).ownsRow W.heap.size 5 1 (.slice (some ⟨W.heap.size, 0, none⟩) 0 (n + 16)) 0 (u8s [])) := fun W => by
    have := World.ownsRow_made (base := W.heap.size) (e := 5) (size := 1) W (madeCells #[.int .u8 0] (n + 16)) (n + 16) (Nat.le_refl _) (by simp only [maxLen]; omega) (by rw [madeCells_size]; simp)
    exact this
  refine wp_region_w [(0, true), (1, true), (2, true), (4, true), (6, true), (3, false), (5, false), (7, false), (8, false), (9, false)] (by kernel_rfl) (fun _ d _ _ _ h => by cases d <;> exact h) ?_
  simp only [List.map_cons, List.map_nil, nthOp_zero, nthOp_succ]
  refine wpW_take (by rfl) (by intro W; go_simp; try with_reducible rfl) ?_
  refine wpW_take (by rfl) (by intro W; go_simp; try with_reducible rfl) ?_
  refine wpW_take (by rfl) (by intro W; go_simp; try with_reducible rfl) ?_
  refine wpW_take (by rfl) (by intro W; go_simp; try with_reducible rfl) ?_
  refine wpW_take (by rfl) (by intro W; go_simp; try with_reducible rfl) ?_
  refine wpW_do fun K3 hK3 => ?_
  have HO : Hid (OwnB w2 ((w2.alloc (.cells (madeCells #[Value.int .u8 0] (n + 16)) 5)).drew) (.slice (some ⟨w2.heap.size, 0, none⟩) 0 (n + 16)) [] ∧
      Reads ((w2.alloc (.cells (madeCells #[Value.int .u8 0] (n + 16)) 5)).drew) w.heap.size 1 A n (u8s xs) ∧ Blk ((w2.alloc (.cells (madeCells #[Value.int .u8 0] (n + 16)) 5)).drew) (w.heap.size + 1) 122 (u8s (key16 ks)).toArray ∧
      Blk ((w2.alloc (.cells (madeCells #[Value.int .u8 0] (n + 16)) 5)).drew) w.heap.size 122 z16 ∧ Below w.heap.size w ((w2.alloc (.cells (madeCells #[Value.int .u8 0] (n + 16)) 5)).drew) ∧ w.heap.size + 1 < w2.heap.size) := by
    have hA : Below w.heap.size w (w.alloc (.cells z16 122)) := (Below.refl _ _).alloc (Nat.le_refl _) _
    have hB : Below w.heap.size w w2 := hA.trans (hb2.mono (by omega))
    have hS := (show Blk w2 (w.heap.size + 1) 122 _ from HG2).lt
    refine ⟨⟨(hown0 w2).out, ((Below.refl _ _).alloc (Nat.le_refl _) _).drew⟩, (HXr.out.below hB).alloc (by omega) _, ?_, ?_, (hB.alloc (by omega) _).drew, hS⟩
    · have h1 := (show Blk w2 (w.heap.size + 1) 122 _ from HG2).alloc (.cells (madeCells #[Value.int .u8 0] (n + 16)) 5)
      rw [HC.out, splice_key] at h1
      exact h1
    · exact ((Blk.new w 122 z16).below hb2 (by omega)).alloc _
  clear hown0 HXr HBw HF
  go_wp2
  refine hK3.out _ _ ?_
  clear hK3 K3 HG2 hb2 hmk hw16
  generalize (w2.alloc (.cells (madeCells #[Value.int .u8 0] (n + 16)) 5)).drew = w3 at *
  refine wpW_do fun K4 hK4 => ?_
  go_wp2_with (at_builtin; refine wpList_app el_u8 rfl (.tmp 12) (.tmp 13) rfl HO.out.1.1 rfl HO.out.2.1 rfl u8s_one (by simp only [maxLen, List.length_nil]; omega) (by simp only [List.length_nil]; omega) HO.out.1.2.size ?_; intro v4 w4 ho4 hb4 _ _; have H4 := Lib.hid (HO.out.1.app rfl hlx.out ho4 hb4); have H4b := Lib.hid hb4; clear ho4 hb4)
  refine hK4.out _ _ ?_
  clear hK4 K4
  have HR4 : Hid (Reads w4 (w.heap.size + 2) 1 (some ⟨w.heap.size + 1, 0, none⟩) 16 (u8s (key16 ks))) := by
    have h1 := (HO.out.2.2.1.below H4b.out HO.out.2.2.2.2.2).reads (n := 16) (by rw [u8s_length, key16_length]; omega)
    rwa [List.take_of_length_le (by rw [u8s_length, key16_length]; omega)] at h1
  refine wpW_do fun K5 hK5 => ?_
  go_wp2_with (at_builtin; refine wpList_app el_u8 rfl (.tmp 14) (.tmp 15) rfl H4.out.1 rfl HR4.out rfl u8s_one (by simp only [maxLen, List.nil_append, hlx.out]; omega) (by simp only [List.nil_append, hlx.out]; omega) H4.out.2.size ?_; intro v5 w5 ho5 hb5 _ _; have H5 := Lib.hid (H4.out.app rfl (by rw [key16_length]) ho5 hb5); have H5b := Lib.hid hb5; clear ho5 hb5)
  refine hK5.out _ _ ?_
  clear hK5 K5 HR4
  rw [List.nil_append] at H5
  obtain ⟨A5, c5, hv⟩ := H5.out.shape
  have hL5 : (xs ++ key16 ks).length = n + 16 := by rw [List.length_append, key16_length, hlx.out]
  rw [hL5] at hv
  subst hv
  have HR5 := Lib.hid (H5.out.reads hL5)
  have hc5 : n + 16 ≤ c5 := by
    have := H5.out.1
    rw [hL5] at this
    rcases this.2 with ⟨h1, _⟩ | ⟨g, cap, cur, h1, _, _, h2, _⟩
    · injection h1 with _ h1 _; omega
    · injection h1 with _ h1 h3; omega
  have hm5 : c5 ≤ 9223372036854775807 := by
    have := H5.out.1
    rw [hL5] at this
    rcases this.2 with ⟨h1, _⟩ | ⟨g, cap, cur, h1, _, _, _, h2, _⟩
    · injection h1 with _ h1 _; omega
    · injection h1 with _ h1 h3; unfold maxLen at h2; omega
  clear hL5
  have HB5 : Hid (Blk w5 w.heap.size 122 z16 ∧ Below w.heap.size w w5) :=
    ⟨(HO.out.2.2.2.1.below H4b.out (by have := HO.out.2.2.2.2.2; omega)).below H5b.out (by have := HO.out.2.2.2.2.2; omega),
      (HO.out.2.2.2.2.1.trans (H4b.out.mono (by have := HO.out.2.2.2.2.2; omega))).trans (H5b.out.mono (by have := HO.out.2.2.2.2.2; omega))⟩
  refine wpW_do fun K6 hK6 => ?_
  go_wp2_with (go_at_call 104; refine (of_any A5 (n + 16) c5 _ _ HR5.out (ho.append (key16_oct hko)) hc5 hm5 (by omega)).mono ?_; rintro e w6 ⟨rfl, hb6⟩; have H6b := Lib.hid hb6; clear hb6)
  refine hK6.out _ _ ?_
  clear hK6 K6
  have h6 := HB5.out.1.later H6b.out
  have HR16 : Hid ((u8s (md (xs ++ key16 ks))).toArray.size = 16 ∧ (u8s (md (xs ++ key16 ks))).toArray.all (·.oneCell') = true) := ⟨by simp [u8s_length, md_len], by simp [u8s, Value.oneCell']⟩
  refine wpW_do fun K7 hK7 => ?_
  go_wp2_with (refine wpList_store_row rfl 122 _ _ rfl w.heap.size (u8s (md (xs ++ key16 ks))).toArray rfl rfl 122 _ h6 (by rw [HR16.out.1]; exact i27) (by rw [HR16.out.1]; rfl) HR16.out.2 ?_)
  refine hK7.out _ _ ?_
  clear hK7 K7
  refine wpW_nil ?_
  go_wp2
  refine bodyPost_ret (results_cell_row rfl _ _ w.heap.size 122 (u8s (md (xs ++ key16 ks))).toArray (0, 0) _ rfl (h6.setRow _) Try.underlying122 rfl (by rw [HR16.out.1]; exact i27)) rfl ⟨rfl, below_setRow (below_then HB5.out.2 H6b.out) (Nat.le_refl _) _⟩
end Go.Proofs.Ytkgdeneonobibaa
