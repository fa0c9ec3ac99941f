/-
  spread.List with one state: Drop, Confirm, Len, walked.
-/
import Derived.Test.YtjkmehpokdaonaaSpr3
import Derived.LoopN
namespace Go.Proofs.Ytjkmehpokdaonaa
set_option linter.unusedVariables false
open Go.RowKit

theorem MapL.cell_none {κ : Type} [DecidableEq κ] {enc : κ → Value} {w : World} {b i : Nat} {L : List (κ × Value)} {v : Value} (h : MapL enc w b L) (hc : w.cell? ⟨b, i, none⟩ = some v) : False := by
  obtain ⟨es, clock, hh, _⟩ := h
  simp [World.cell?, hh] at hc
theorem Kept.cell {S : Nat → Prop} {w w' : World} (h : Kept S w w') {p : Addr} (hp : p.block < w.heap.size) (hn : ¬ S p.block) : w'.cell? p = w.cell? p := by
  unfold World.cell?
  rw [h.block _ hp hn]
theorem run_app_nothing {P : Program} {w : World} {t e : TypeId} {size bytes : Nat} (E : El P t e size bytes) (ty : TypeId) (A A' : Option Addr) (n c c' : Nat) (hc : n ≤ c) :
    (Builtin.append_ #[t, t] ty #[.slice A n c, .slice A' 0 c']).run P w = .ok (.slice A n c) w := by
  obtain ⟨i, z, hi, hz⟩ := E.info
  cases A <;> cases A' <;> simp [Builtin.append_, run_underlying E.ht, sizeOf, typeInfo, hi, Builtin.lenOf, Builtin.firstCells, storeCells, loadCells, loadCellsFrom, hc]
theorem wpList_app_nothing {P : Program} {ops : Array Oper} {rest : List Oper} {o : Oper} {a : Act} {Q : Exit → Act → World → Prop} {w : World} {t e : TypeId} {size bytes : Nat} (E : El P t e size bytes)
    (hgd : o.guard = none) (s x : Operand) (ho : o.op = .call { callee := .builtin .append, args := #[s, x], argTypes := #[t, t] })
    {A A' : Option Addr} {n c c' : Nat} (hs : a.eval s = .slice A n c) (hx : a.eval x = .slice A' 0 c') (hc : n ≤ c)
    (h : wpList P ops Q rest (a.put o.dst (.slice A n c)) w) :
    wpList P ops Q (o :: rest) a w := by
  refine wpList_plain hgd fun K hK => ?_
  unfold Oper.wp execOp
  simp only [ho, resolve, invoke, builtin, Sem.run_bind, Sem.run_pure, Result.andThen_ok, List.map_toArray, List.map_cons, List.map_nil, hs, hx, run_app_nothing E o.type A A' n c c' hc]
  exact hK _ _ h

/-- An emptied list. -/
structure LE (w : World) (g bm : Nat) : Prop where
  len : ∃ A c, w.cell? ⟨g, 2, none⟩ = some (.slice A 0 c)
  map : w.cell? ⟨g, 3, none⟩ = some (.map (some bm))

set_option maxRecDepth 100000 in
set_option maxHeartbeats 2000000 in
/-- Drop of the one key. -/
theorem drop1_any (w : World) (g bm gk c : Nat) (r t : Int) (h : Hd) (l : L1 w g bm gk c r t h) :
    Calls Try.prog 20 #[.pointer (some ⟨g, 0, none⟩), keyV h.key] w fun e w' => e = .returned (.bool true) ∧ LE w' g bm ∧ Kept (fun i => i = g ∨ i = bm) w w' := by
  have hm : w.cell? ⟨g, 3, none⟩ = some (.map (some bm)) := l.blk.cell 3
  have HN := Lib.hid (fun (W : World) (h : W.cell? ⟨g, 3, none⟩ = some (.map (some bm))) => none_any W g bm h)
  have hg := l.blk.lt
  have HL := Lib.hid l
  have hne := l.map.ne_blk l.blk
  clear l
  go_enter Try.func20, Try.ntmps20
  go_wp2_with (go_at_call 36; refine (HN.out _ (by rw [World.cell?_alloc_lt _ _ _ hg]; exact hm)).mono ?_; rintro e w' ⟨rfl, rfl⟩)
  have hb1 : Hid (Below w.heap.size w (w.alloc (.cells #[.int .u8 h.typ, .int .u32 h.id, .int .u32 h.adv] 46)).drew) := ((Below.refl _ _).alloc (Nat.le_refl _) _).drew
  have HK : Hid (Blk (w.alloc (.cells #[.int .u8 h.typ, .int .u32 h.id, .int .u32 h.adv] 46)).drew w.heap.size 46 #[.int .u8 h.typ, .int .u32 h.id, .int .u32 h.adv]) := Blk.new _ _ _
  have F1 := Lib.hid (HL.out.later hb1.out)
  have K1 : Hid (Kept (fun i => i = g ∨ i = bm) w (w.alloc (.cells #[.int .u8 h.typ, .int .u32 h.id, .int .u32 h.adv] 46)).drew) := Kept.of_new hb1.out _
  have HS : Hid ((fun W : World => L1 W g bm gk c r t h ∧ Blk W w.heap.size 46 #[.int .u8 h.typ, .int .u32 h.id, .int .u32 h.adv]) (w.alloc (.cells #[.int .u8 h.typ, .int .u32 h.id, .int .u32 h.adv] 46)).drew) := ⟨F1.out, HK.out⟩
  clear hm hg HN HL hb1
  refine wp_region_s (fun W : World => L1 W g bm gk c r t h ∧ Blk W w.heap.size 46 #[.int .u8 h.typ, .int .u32 h.id, .int .u32 h.adv])
    [(0, true), (1, true), (2, true), (3, true), (4, true), (5, true), (6, true), (7, true), (8, true), (9, false), (10, false), (11, true)] (by kernel_rfl) (fun _ d _ _ _ h => by cases d <;> exact h) ?_
  simp only [List.map_cons, List.map_nil, nthOp_zero, nthOp_succ]
  generalize (w.alloc (.cells #[.int .u8 h.typ, .int .u32 h.id, .int .u32 h.adv] 46)).drew = w1 at *
  generalize w.heap.size = gp at *
  refine wpS_take HS (by rfl) (by intro W hW; go_simp; try with_reducible rfl) ?_
  refine wpS_take HS (by rfl) (by intro W hW; go_simp; try with_reducible rfl) ?_
  refine wpS_take HS (by rfl) (by intro W hW; go_simp; try with_reducible rfl) ?_
  refine wpS_take HS (by rfl) (by intro W hW; obtain ⟨hW1, hW2⟩ := hW; have j3 := hW1.blk.cell 3; clear hW1 hW2; simp at j3; go_simp; try with_reducible rfl) ?_
  refine wpS_take HS (by rfl) (by intro W hW; obtain ⟨hW1, hW2⟩ := hW; have j0 := hW2.cell 0; have j1 := hW2.cell 1; have j2 := hW2.cell 2; clear hW1 hW2; simp at j0 j1 j2; go_simp; try with_reducible rfl) ?_
  refine wpS_take HS (by rfl) (fun W hW => exec_lookupL (a := h.key) keyT Try.underlying53 zeroState rfl hW.1.map rfl rfl) ?_
  simp only [show lookedUp [(h.key, stV h none 0 0)] h.key zeroSt true = .tuple #[stV h none 0 0, .bool true] from by simp [lookedUp, findL]]
  refine wpS_take HS (by rfl) (by intro W hW; go_simp; try with_reducible rfl) ?_
  refine wpS_take HS (by rfl) (by intro W hW; go_simp; try with_reducible rfl) ?_
  refine wpS_take HS (by rfl) (by intro W hW; go_simp; try with_reducible rfl) ?_
  refine wpS_do fun K hK => ?_
  go_wp2
  have hb2 : Hid (Below w1.heap.size w1 (w1.alloc (.cells #[.int .u16 0, .int .u8 0, .int .u8 0, .int .u32 0, .int .u32 0, .int .i32 0, .int .u16 0, .int .u16 0, .slice none 0 0] 44))) := (Below.refl _ _).alloc (Nat.le_refl _) _
  refine hK.out _ _ ⟨HS.out.1.later hb2.out, HS.out.2.later hb2.out⟩ ?_
  clear hK K
  refine wpS_do fun K hK => ?_
  go_wp2_with (refine wpList_store_row rfl 44 _ _ rfl w1.heap.size #[.int .u16 h.age, .int .u8 h.opts, .int .u8 h.typ, .int .u32 h.id, .int .u32 h.adv, .int .i32 h.seq, .int .u16 h.sum, .int .u16 h.len, .slice none 0 0] rfl rfl 44 _ (heap_alloc_new w1 _) info_state rfl (by simp [Value.oneCell']) ?_; rw [World.setRow_alloc_new])
  have hb3 : Hid (Below w1.heap.size w1 (w1.alloc (.cells #[.int .u16 h.age, .int .u8 h.opts, .int .u8 h.typ, .int .u32 h.id, .int .u32 h.adv, .int .i32 h.seq, .int .u16 h.sum, .int .u16 h.len, .slice none 0 0] 44))) := (Below.refl _ _).alloc (Nat.le_refl _) _
  have HS2 : Hid ((fun W : World => L1 W g bm gk c r t h ∧ Blk W gp 46 #[.int .u8 h.typ, .int .u32 h.id, .int .u32 h.adv]) (w1.alloc (.cells #[.int .u16 h.age, .int .u8 h.opts, .int .u8 h.typ, .int .u32 h.id, .int .u32 h.adv, .int .i32 h.seq, .int .u16 h.sum, .int .u16 h.len, .slice none 0 0] 44))) := ⟨HS.out.1.later hb3.out, HS.out.2.later hb3.out⟩
  refine hK.out _ _ HS2.out ?_
  clear hK K
  refine wpS_take HS2 (by rfl) (by intro W hW; go_simp; try with_reducible rfl) ?_
  refine wpS_nil ?_
  have K3 : Hid (Kept (fun i => i = g ∨ i = bm) w (w1.alloc (.cells #[.int .u16 h.age, .int .u8 h.opts, .int .u8 h.typ, .int .u32 h.id, .int .u32 h.adv, .int .i32 h.seq, .int .u16 h.sum, .int .u16 h.len, .slice none 0 0] 44)).drew) := (K1.out.trans (Kept.of_new hb3.out _) (fun _ _ h => h)).drew
  have HS3 : Hid ((fun W : World => L1 W g bm gk c r t h ∧ Blk W gp 46 #[.int .u8 h.typ, .int .u32 h.id, .int .u32 h.adv]) (w1.alloc (.cells #[.int .u16 h.age, .int .u8 h.opts, .int .u8 h.typ, .int .u32 h.id, .int .u32 h.adv, .int .i32 h.seq, .int .u16 h.sum, .int .u16 h.len, .slice none 0 0] 44)).drew) := ⟨HS.out.1.later hb3.out.drew, HS.out.2.later hb3.out.drew⟩
  clear HS HS2 hb2 hb3 K1 HK F1
  go_wp2
  refine wp_region_g (fun W : World => L1 W g bm gk c r t h ∧ Blk W gp 46 #[.int .u8 h.typ, .int .u32 h.id, .int .u32 h.adv])
    [.take 0, .take 1, .take 2, .take 3, .take 4, .one 5] (by kernel_rfl) (fun _ d _ _ _ h => by cases d <;> exact h) ?_
  simp only [List.map_cons, List.map_nil, RStep.node, nthOp_zero, nthOp_succ]
  generalize (w1.alloc (.cells #[.int .u16 h.age, .int .u8 h.opts, .int .u8 h.typ, .int .u32 h.id, .int .u32 h.adv, .int .i32 h.seq, .int .u16 h.sum, .int .u16 h.len, .slice none 0 0] 44)).drew = w4 at *
  refine wpG_take HS3 (by rfl) (by intro W hW; go_simp; try with_reducible rfl) ?_
  refine wpG_take HS3 (by rfl) (by intro W hW; go_simp; try with_reducible rfl) ?_
  refine wpG_take HS3 (by rfl) (by intro W hW; go_simp; try with_reducible rfl) ?_
  refine wpG_take HS3 (by rfl) (by intro W hW; obtain ⟨hW1, hW2⟩ := hW; have j3 := hW1.blk.cell 3; clear hW1 hW2; simp at j3; go_simp; try with_reducible rfl) ?_
  refine wpG_take HS3 (by rfl) (by intro W hW; obtain ⟨hW1, hW2⟩ := hW; have j0 := hW2.cell 0; have j1 := hW2.cell 1; have j2 := hW2.cell 2; clear hW1 hW2; simp at j0 j1 j2; go_simp; try with_reducible rfl) ?_
  refine wpG_last fun K hK => ?_
  go_wp2_with (refine wpList_deleteL keyT Try.underlying53 rfl (.tmp 25) (.tmp 26) 46 rfl HS3.out.1.map rfl h.key rfl ?_; intro w5 hm5 hk5; have H5 := Lib.hid (And.intro hm5 hk5); clear hm5 hk5)
  refine hK.out _ _ ?_
  clear hK K
  have hgk : gk ≠ bm := by
    rintro rfl
    exact HS3.out.1.map.cell_none HS3.out.1.k0
  have hgp : gp ≠ bm := fun e => HS3.out.1.map.cell_none (e ▸ HS3.out.2.cell 0)
  have hk5 : Kept (fun i => i = bm) w4 w5 := H5.out.2
  have B5 : Blk w5 g 55 #[.int .u32 r, .int .u32 t, .slice (some ⟨gk, 0, none⟩) 1 c, .map (some bm)] := HS3.out.1.blk.kept hk5 (fun e => hne e.symm)
  have P5 : Blk w5 gp 46 #[.int .u8 h.typ, .int .u32 h.id, .int .u32 h.adv] := HS3.out.2.kept hk5 hgp
  have ltk : gk < w4.heap.size := cell_lt HS3.out.1.k0
  have C5 := fun o => hk5.cell (p := ⟨gk, o, none⟩) ltk hgk
  have c0 := (C5 0).trans HS3.out.1.k0
  have c1 := (C5 1).trans HS3.out.1.k1
  have c2 := (C5 2).trans HS3.out.1.k2
  have d2 := B5.cell 2
  have HB5 : Hid (Blk w5 g 55 #[.int .u32 r, .int .u32 t, .slice (some ⟨gk, 0, none⟩) 1 c, .map (some bm)] ∧ Blk w5 gp 46 #[.int .u8 h.typ, .int .u32 h.id, .int .u32 h.adv] ∧ Kept (fun i => i = g ∨ i = bm) w w5) := ⟨B5, P5, K3.out.trans hk5 (fun _ _ h => .inr h)⟩
  have hcap := Lib.hid HS3.out.1.cap
  clear HS3 K3 H5 hk5 B5 C5 ltk
  have e0 := P5.cell 0
  have e1 := P5.cell 1
  have e2 := P5.cell 2
  clear P5
  simp at d2 e0 e1 e2
  have ltp : gp < w5.heap.size := cell_lt e0
  have ltg : g < w5.heap.size := cell_lt d2
  have EA := fun o => World.cell?_alloc_lt w5 (.cells #[.int .u8 h.typ, .int .u32 h.id, .int .u32 h.adv] 46) ⟨gp, o, none⟩ ltp
  have a0 := (EA 0).trans e0
  have a1 := (EA 1).trans e1
  have a2 := (EA 2).trans e2
  clear EA
  go_wp2
  refine wp_loop_once ?_
  go_wp2
  have hb6 : Below w5.heap.size w5 (w5.alloc (.cells #[.int .u8 h.typ, .int .u32 h.id, .int .u32 h.adv] 46)).drew := ((Below.refl _ _).alloc (Nat.le_refl _) _).drew
  have F6 : Hid (Blk (w5.alloc (.cells #[.int .u8 h.typ, .int .u32 h.id, .int .u32 h.adv] 46)).drew g 55 #[.int .u32 r, .int .u32 t, .slice (some ⟨gk, 0, none⟩) 1 c, .map (some bm)] ∧ Kept (fun i => i = g ∨ i = bm) w (w5.alloc (.cells #[.int .u8 h.typ, .int .u32 h.id, .int .u32 h.adv] 46)).drew) :=
    ⟨HB5.out.1.later hb6, HB5.out.2.2.trans (Kept.of_new hb6 _) (fun _ _ h => h)⟩
  have HS6 : Hid ((fun W : World => W.cell? ⟨g, 2, none⟩ = some (.slice (some ⟨gk, 0, none⟩) 1 c)) (w5.alloc (.cells #[.int .u8 h.typ, .int .u32 h.id, .int .u32 h.adv] 46)).drew) := F6.out.1.cell 2
  clear hb6 a0 a1 a2 e0 e1 e2 c0 c1 c2 d2 HB5 ltp ltg
  have hc1 := hcap.out.1
  have hc2 := hcap.out.2
  have hw1 : IntKind.i64.wrap 1 = 1 := by rfl
  refine wp_region_g (fun W : World => W.cell? ⟨g, 2, none⟩ = some (.slice (some ⟨gk, 0, none⟩) 1 c))
    [.take 0, .take 1, .take 2, .take 3, .take 5, .take 6, .take 8, .take 9, .take 10, .take 12, .take 13, .take 4, .take 7, .take 11, .take 14, .one 15, .take 16, .take 17, .one 18] (by kernel_rfl) (fun _ d _ _ _ h => by cases d <;> exact h) ?_
  simp only [List.map_cons, List.map_nil, RStep.node, nthOp_zero, nthOp_succ]
  generalize (w5.alloc (.cells #[.int .u8 h.typ, .int .u32 h.id, .int .u32 h.adv] 46)).drew = w6 at *
  refine wpG_take HS6 (by rfl) (by intro W hW; go_simp; try with_reducible rfl) ?_
  refine wpG_take HS6 (by rfl) (by intro W hW; go_simp; try with_reducible rfl) ?_
  refine wpG_take HS6 (by rfl) (by intro W hW; go_simp; try with_reducible rfl) ?_
  refine wpG_take HS6 (by rfl) (by intro W hW; go_simp; try with_reducible rfl) ?_
  refine wpG_take HS6 (by rfl) (by intro W hW; go_simp; try with_reducible rfl) ?_
  refine wpG_take HS6 (by rfl) (by intro W hW; go_simp; try with_reducible rfl) ?_
  refine wpG_take HS6 (by rfl) (by intro W hW; go_simp; try with_reducible rfl) ?_
  refine wpG_take HS6 (by rfl) (by intro W hW; go_simp; try with_reducible rfl) ?_
  refine wpG_take HS6 (by rfl) (by intro W hW; go_simp; try with_reducible rfl) ?_
  refine wpG_take HS6 (by rfl) (by intro W hW; go_simp; try with_reducible rfl) ?_
  refine wpG_take HS6 (by rfl) (by intro W hW; go_simp; try with_reducible rfl) ?_
  refine wpG_take HS6 (by rfl) (by intro W hW; go_simp; try with_reducible rfl) ?_
  refine wpG_take HS6 (by rfl) (by intro W hW; go_simp; try with_reducible rfl) ?_
  refine wpG_take HS6 (by rfl) (by intro W hW; go_simp; try with_reducible rfl) ?_
  refine wpG_take HS6 (by rfl) (by intro W hW; go_simp; try with_reducible rfl) ?_
  generalize (if c = 1 then (some (⟨gk, 0, none⟩ : Addr)) else some ⟨gk, 3, none⟩) = A1
  refine wpG_do fun K hK => ?_
  go_wp2_with (refine wpList_app_nothing (A := some ⟨gk, 0, none⟩) (n := 0) (c := 0) (A' := A1) (c' := c - 1) el_key rfl (.tmp 47) (.tmp 54) rfl (by go_simp) (by go_simp) (Nat.le_refl _) ?_)
  refine hK.out _ _ HS6.out ?_
  clear hK K
  refine wpG_take HS6 (by rfl) (by intro W hW; go_simp; try with_reducible rfl) ?_
  refine wpG_take HS6 (by rfl) (by intro W hW; go_simp; try with_reducible rfl) ?_
  have f2 := F6.out.1.frozen 2
  have c2 : w6.cell? ⟨g, 2, none⟩ = some (.slice (some ⟨gk, 0, none⟩) 1 c) := HS6.out
  refine wpG_last fun K hK => ?_
  go_wp2
  refine hK.out _ _ ?_
  clear hK K
  go_wp2
  go_ret
  have hk := kept_setC w6 g 2 (.slice (some ⟨gk, 0, none⟩) 0 0)
  have hb := F6.out.1.set_ 2 (.slice (some ⟨gk, 0, none⟩) 0 0)
  exact ⟨rfl, ⟨⟨_, _, hb.cell 2⟩, hb.cell 3⟩, F6.out.2.trans hk (fun _ _ h => .inl h)⟩
end Go.Proofs.Ytjkmehpokdaonaa
