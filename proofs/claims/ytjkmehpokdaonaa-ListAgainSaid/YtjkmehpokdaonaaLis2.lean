/-
  spread.copied, of any state.
-/
import Derived.Test.YtjkmehpokdaonaaLis1
namespace Go.Proofs.Ytjkmehpokdaonaa
set_option linter.unusedVariables false
open Go.RowKit

theorem info_u8_ : (Try.prog.info? 5).map (fun i => (i.zero, i.size, i.bytes)) = some (some (.int .u8 0), 1, 1) := by kernel_rfl
theorem el_u8 : El Try.prog 42 5 1 1 := El.mk' Try.underlying42 info_u8_ rfl (by omega)
@[reducible] def stC (h : Hd) (A : Option Addr) (n c : Nat) : Array Value := #[.int .u16 h.age, .int .u8 h.opts, .int .u8 h.typ, .int .u32 h.id, .int .u32 h.adv, .int .i32 h.seq, .int .u16 h.sum, .int .u16 h.len, .slice A n c]
@[reducible] def zC : Array Value := #[.int .u16 0, .int .u8 0, .int .u8 0, .int .u32 0, .int .u32 0, .int .i32 0, .int .u16 0, .int .u16 0, .slice none 0 0]
theorem stC_facts {W : World} {g : Nat} {h : Hd} {A : Option Addr} {n c : Nat} (b : Blk W g 44 (stC h A n c)) :
    W.cell? ⟨g, 0, none⟩ = some (.int .u16 h.age) ∧ W.cell? ⟨g, 1, none⟩ = some (.int .u8 h.opts) ∧ W.cell? ⟨g, 2, none⟩ = some (.int .u8 h.typ) ∧ W.cell? ⟨g, 3, none⟩ = some (.int .u32 h.id) ∧ W.cell? ⟨g, 4, none⟩ = some (.int .u32 h.adv) ∧
    W.cell? ⟨g, 5, none⟩ = some (.int .i32 h.seq) ∧ W.cell? ⟨g, 6, none⟩ = some (.int .u16 h.sum) ∧ W.cell? ⟨g, 7, none⟩ = some (.int .u16 h.len) ∧ W.cell? ⟨g, 8, none⟩ = some (.slice A n c) :=
  ⟨b.cell 0, b.cell 1, b.cell 2, b.cell 3, b.cell 4, b.cell 5, b.cell 6, b.cell 7, b.cell 8⟩
/-- What a copy of a state is. -/
structure CopyOf (w w' : World) (s s' : SE) : Prop where
  h : s'.h = s.h
  B : s'.B = s.B
  n : s'.n = s.n
  ok : s'.ok w'
  new : ∀ i, s'.b.ownBlock = some i → w.heap.size ≤ i
set_option maxRecDepth 100000 in
set_option maxHeartbeats 2000000 in
theorem copied_any (s : SE) (w : World) (hs : s.rd w) : Calls Try.prog 38 #[s.v] w fun e w' => ∃ s', e = .returned s'.v ∧ CopyOf w w' s s' ∧ Below w.heap.size w w' := by
  obtain ⟨h, A, n, c, B⟩ := s
  have Hok := Lib.hid hs
  have hz : Hid (Blk ((w.alloc (.cells (stC h A n c) 44)).alloc (.cells zC 44)) (w.heap.size + 1) 44 zC) := new_at _ _ _
  have HS : Hid ((fun W : World => Blk W w.heap.size 44 (stC h A n c)) ((w.alloc (.cells (stC h A n c) 44)).alloc (.cells zC 44)).drew) := Lib.hid ((Blk.new _ _ _).alloc _)
  have hb : Hid (Below w.heap.size w ((w.alloc (.cells (stC h A n c) 44)).alloc (.cells zC 44))) := below_two _ _ _
  clear hs
  show Calls Try.prog 38 #[stV h A n c] w fun e w' => ∃ s', e = .returned s'.v ∧ CopyOf w w' ⟨h, A, n, c, B⟩ s' ∧ Below w.heap.size w w'
  go_enter Try.func38, Try.ntmps38
  go_wp2
  refine wp_region_s (fun W : World => Blk W w.heap.size 44 (stC h A n c))
    [(0, true), (2, true), (1, true), (3, true), (4, false), (5, true), (6, false)] (by kernel_rfl) (fun _ d _ _ _ h => by cases d <;> exact h) ?_
  simp only [List.map_cons, List.map_nil, nthOp_zero, nthOp_succ]
  unfold stC zC at *
  generalize (w.alloc (.cells #[.int .u16 h.age, .int .u8 h.opts, .int .u8 h.typ, .int .u32 h.id, .int .u32 h.adv, .int .i32 h.seq, .int .u16 h.sum, .int .u16 h.len, .slice A n c] 44)).alloc (.cells #[.int .u16 0, .int .u8 0, .int .u8 0, .int .u32 0, .int .u32 0, .int .i32 0, .int .u16 0, .int .u16 0, .slice none 0 0] 44) = w1 at *
  refine wpS_take HS (by rfl) (by intro W hW; obtain ⟨_, _, _, _, _, _, _, _, _⟩ := stC_facts hW; clear hW; go_simp; try with_reducible rfl) ?_
  refine wpS_take HS (by rfl) (by intro W hW; clear hW; go_simp; try with_reducible rfl) ?_
  refine wpS_take HS (by rfl) (by intro W hW; obtain ⟨_, _, _, _, _, _, _, _, _⟩ := stC_facts hW; clear hW; go_simp; try with_reducible rfl) ?_
  refine wpS_take HS (by rfl) (by intro W hW; obtain ⟨_, _, _, _, _, _, _, _, _⟩ := stC_facts hW; clear hW; go_simp; try with_reducible rfl) ?_
  have HR : Hid (Reads w1.drew w1.heap.size 1 A n (u8s B)) := Lib.hid ((Hok.out.body.below hb.out).more hb.out.size)
  have hn : n ≤ 1099511627776 := Hok.out.len
  refine wpS_do fun K hK => ?_
  go_wp2_with (at_builtin; go_must (refine wpList_app el_u8 rfl _ _ rfl (World.ownsRow_nil w1.drew w1.heap.size 5 1) rfl HR.out rfl u8s_one (by simp only [maxLen]; omega) (by omega) (Nat.le_refl _) ?_); intro v7 w7 ho7 hb7 _ _; have H7 := Lib.hid (And.intro ho7 hb7); clear ho7 hb7)
  simp only [Nat.zero_add, List.nil_append] at H7
  obtain ⟨A7, c7, hv, -⟩ := own_shape H7.out.1
  subst hv
  have hb17 := (Below.refl w1.heap.size w1).drew.trans H7.out.2
  have hz2 : Blk w7 (w.heap.size + 1) 44 #[.int .u16 0, .int .u8 0, .int .u8 0, .int .u32 0, .int .u32 0, .int .i32 0, .int .u16 0, .int .u16 0, .slice none 0 0] := hz.out.later hb17
  have HS7 : Hid (Blk w7 w.heap.size 44 #[.int .u16 h.age, .int .u8 h.opts, .int .u8 h.typ, .int .u32 h.id, .int .u32 h.adv, .int .i32 h.seq, .int .u16 h.sum, .int .u16 h.len, .slice A n c]) := Lib.hid (HS.out.later H7.out.2)
  have hlt := hz.out.lt
  refine hK.out _ _ HS7.out ?_
  clear hK K
  refine wpS_take HS7 (by rfl) (by intro W hW; clear hW; go_simp; try with_reducible rfl) ?_
  refine wpS_do fun K hK => ?_
  go_wp2_with (go_must (refine wpList_store_row rfl 44 _ _ rfl (w.heap.size + 1) #[.int .u16 h.age, .int .u8 h.opts, .int .u8 h.typ, .int .u32 h.id, .int .u32 h.adv, .int .i32 h.seq, .int .u16 h.sum, .int .u16 h.len, .slice A7 n c7] rfl rfl 44 _ hz2 info_state rfl (by simp [Value.oneCell']) ?_))
  refine hK.out _ _ (HS7.out.setRow_far (Nat.ne_of_lt (Nat.lt_succ_self _)) _) ?_
  clear hK K
  refine wpS_nil ?_
  go_wp2
  refine bodyPost_ret (results_cell_row rfl _ _ (w.heap.size + 1) 44 #[.int .u16 h.age, .int .u8 h.opts, .int .u8 h.typ, .int .u32 h.id, .int .u32 h.adv, .int .i32 h.seq, .int .u16 h.sum, .int .u16 h.len, .slice A7 n c7] (0, 0) _ rfl (hz2.setRow _) Try.underlying44 rfl info_state) rfl ?_
  refine ⟨⟨h, A7, n, c7, B⟩, rfl, ⟨rfl, rfl, rfl, ⟨Hok.out.head, ?_, hn⟩, fun i hi => ?_⟩, ?_⟩
  · refine (OwnW.of_own H7.out.1).kept (Kept.of_grown (only_setRow w7 (w.heap.size + 1) _)) fun i hi e => ?_
    injection e with e
    have := (own_ge H7.out.1 hi).1
    omega
  · have := (own_ge H7.out.1 hi).1
    omega
  · exact below_setRow (below_then hb.out hb17) (Nat.le_succ _) _
end Go.Proofs.Ytjkmehpokdaonaa
