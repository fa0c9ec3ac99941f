/-
  spread.List with at most one state: New, Add, Drop, Confirm, Len, walked.
-/
import Derived.Test.YtjkmehpokdaonaaSpr1
import Derived.Test.YtjkmehpokdaonaaKeyT
import Derived.Test.YtjkmehpokdaonaaRgn3
namespace Go.Proofs.Ytjkmehpokdaonaa
set_option linter.unusedVariables false
open Go.RowKit

@[reducible] def Hd.key (h : Hd) : Int × Int × Int := (h.typ, h.id, h.adv)
/-- A state, its body a slice. -/
@[reducible] def stV (h : Hd) (A : Option Addr) (n c : Nat) : Value := .agg #[.int .u16 h.age, .int .u8 h.opts, .int .u8 h.typ, .int .u32 h.id, .int .u32 h.adv, .int .i32 h.seq, .int .u16 h.sum, .int .u16 h.len, .slice A n c]

theorem info_key : (Try.prog.info? 46).map (·.size) = some 3 := by kernel_rfl
theorem info_state : (Try.prog.info? 44).map (·.size) = some 9 := by kernel_rfl
theorem new_at (w : World) (A B : Obj) : ((w.alloc A).alloc B).heap[w.heap.size + 1]? = some B := by
  have := heap_alloc_new (w.alloc A) B
  rwa [World.size_alloc] at this
theorem below_two (w : World) (A B : Obj) : Below w.heap.size w ((w.alloc A).alloc B) := ((Below.refl _ _).alloc (Nat.le_refl _) _).alloc (by rw [World.size_alloc]; omega) _
theorem kept_setC (w : World) (g i : Nat) (u : Value) : Kept (fun j => j = g) w (w.setCell ⟨g, i, none⟩ u) := (Kept.refl (fun j => j = g) w).setCell (p := ⟨g, i, none⟩) (fun _ => rfl) u
theorem blk_ne {w : World} {g g' : Nat} {t t' : TypeId} {cs cs' : Array Value} (h : Blk w g t cs) (h' : Blk w g' t' cs') (hn : t ≠ t') : g ≠ g' := by
  rintro rfl
  have : some (Obj.cells cs t) = some (Obj.cells cs' t') := h.symm.trans h'
  injection this with this
  injection this with _ this
  exact hn this
theorem key_any (h : Hd) (w : World) : Calls Try.prog 37 #[h.v] w fun e w' => e = .returned (keyV h.key) ∧ Below w.heap.size w w' := by
  go_enter Try.func37, Try.ntmps37
  go_wp2
  exact bodyPost_ret (results_cell_row rfl _ _ (w.heap.size + 1) 46 #[.int .u8 h.typ, .int .u32 h.id, .int .u32 h.adv] (0, 0) _ rfl (new_at _ _ _) Try.underlying46 rfl info_key) rfl ⟨rfl, below_two _ _ _⟩
theorem copied0_any (h : Hd) (w : World) : Calls Try.prog 38 #[stV h none 0 0] w fun e w' => e = .returned (stV h none 0 0) ∧ Below w.heap.size w w' := by
  have hz : Hid (Blk ((w.alloc (.cells #[.int .u16 h.age, .int .u8 h.opts, .int .u8 h.typ, .int .u32 h.id, .int .u32 h.adv, .int .i32 h.seq, .int .u16 h.sum, .int .u16 h.len, .slice none 0 0] 44)).alloc (.cells #[.int .u16 0, .int .u8 0, .int .u8 0, .int .u32 0, .int .u32 0, .int .i32 0, .int .u16 0, .int .u16 0, .slice none 0 0] 44)) (w.heap.size + 1) 44 #[.int .u16 0, .int .u8 0, .int .u8 0, .int .u32 0, .int .u32 0, .int .i32 0, .int .u16 0, .int .u16 0, .slice none 0 0]) := new_at _ _ _
  have HS : Hid ((fun W : World => Blk W w.heap.size 44 #[.int .u16 h.age, .int .u8 h.opts, .int .u8 h.typ, .int .u32 h.id, .int .u32 h.adv, .int .i32 h.seq, .int .u16 h.sum, .int .u16 h.len, .slice none 0 0])
    ((w.alloc (.cells #[.int .u16 h.age, .int .u8 h.opts, .int .u8 h.typ, .int .u32 h.id, .int .u32 h.adv, .int .i32 h.seq, .int .u16 h.sum, .int .u16 h.len, .slice none 0 0] 44)).alloc (.cells #[.int .u16 0, .int .u8 0, .int .u8 0, .int .u32 0, .int .u32 0, .int .i32 0, .int .u16 0, .int .u16 0, .slice none 0 0] 44)).drew) := (Blk.new _ _ _).alloc _
  have hb : Hid (Below w.heap.size w ((w.alloc (.cells #[.int .u16 h.age, .int .u8 h.opts, .int .u8 h.typ, .int .u32 h.id, .int .u32 h.adv, .int .i32 h.seq, .int .u16 h.sum, .int .u16 h.len, .slice none 0 0] 44)).alloc (.cells #[.int .u16 0, .int .u8 0, .int .u8 0, .int .u32 0, .int .u32 0, .int .i32 0, .int .u16 0, .int .u16 0, .slice none 0 0] 44))) := below_two _ _ _
  go_enter Try.func38, Try.ntmps38
  go_wp2
  refine wp_region_s (fun W : World => Blk W w.heap.size 44 #[.int .u16 h.age, .int .u8 h.opts, .int .u8 h.typ, .int .u32 h.id, .int .u32 h.adv, .int .i32 h.seq, .int .u16 h.sum, .int .u16 h.len, .slice none 0 0])
    [(0, true), (2, true), (1, true), (3, true), (4, false), (5, true), (6, false)] (by kernel_rfl) (fun _ d _ _ _ h => by cases d <;> exact h) ?_
  simp only [List.map_cons, List.map_nil, nthOp_zero, nthOp_succ]
  generalize (w.alloc (.cells #[.int .u16 h.age, .int .u8 h.opts, .int .u8 h.typ, .int .u32 h.id, .int .u32 h.adv, .int .i32 h.seq, .int .u16 h.sum, .int .u16 h.len, .slice none 0 0] 44)).alloc (.cells #[.int .u16 0, .int .u8 0, .int .u8 0, .int .u32 0, .int .u32 0, .int .i32 0, .int .u16 0, .int .u16 0, .slice none 0 0] 44) = w1 at *
  refine wpS_take HS (by rfl) (by intro W hW; have k0 := hW.cell 0; have k1 := hW.cell 1; have k2 := hW.cell 2; have k3 := hW.cell 3; have k4 := hW.cell 4; have k5 := hW.cell 5; have k6 := hW.cell 6; have k7 := hW.cell 7; have k8 := hW.cell 8; clear hW; simp at k0 k1 k2 k3 k4 k5 k6 k7 k8; go_simp; try with_reducible rfl) ?_
  refine wpS_take HS (by rfl) (by intro W hW; have k0 := hW.cell 0; have k1 := hW.cell 1; have k2 := hW.cell 2; have k3 := hW.cell 3; have k4 := hW.cell 4; have k5 := hW.cell 5; have k6 := hW.cell 6; have k7 := hW.cell 7; have k8 := hW.cell 8; clear hW; simp at k0 k1 k2 k3 k4 k5 k6 k7 k8; go_simp; try with_reducible rfl) ?_
  refine wpS_take HS (by rfl) (by intro W hW; have k0 := hW.cell 0; have k1 := hW.cell 1; have k2 := hW.cell 2; have k3 := hW.cell 3; have k4 := hW.cell 4; have k5 := hW.cell 5; have k6 := hW.cell 6; have k7 := hW.cell 7; have k8 := hW.cell 8; clear hW; simp at k0 k1 k2 k3 k4 k5 k6 k7 k8; go_simp; try with_reducible rfl) ?_
  refine wpS_take HS (by rfl) (by intro W hW; have k0 := hW.cell 0; have k1 := hW.cell 1; have k2 := hW.cell 2; have k3 := hW.cell 3; have k4 := hW.cell 4; have k5 := hW.cell 5; have k6 := hW.cell 6; have k7 := hW.cell 7; have k8 := hW.cell 8; clear hW; simp at k0 k1 k2 k3 k4 k5 k6 k7 k8; go_simp; try with_reducible rfl) ?_
  refine wpS_do fun K hK => ?_
  go_wp2_with (refine wpList_value rfl (.slice none 0 0) (by kernel_rfl) ?_)
  refine hK.out _ _ HS.out ?_
  clear hK K
  refine wpS_take HS (by rfl) (by intro W hW; have k0 := hW.cell 0; have k1 := hW.cell 1; have k2 := hW.cell 2; have k3 := hW.cell 3; have k4 := hW.cell 4; have k5 := hW.cell 5; have k6 := hW.cell 6; have k7 := hW.cell 7; have k8 := hW.cell 8; clear hW; simp at k0 k1 k2 k3 k4 k5 k6 k7 k8; go_simp; try with_reducible rfl) ?_
  refine wpS_do fun K hK => ?_
  have hz2 : Blk w1.drew (w.heap.size + 1) 44 #[.int .u16 0, .int .u8 0, .int .u8 0, .int .u32 0, .int .u32 0, .int .i32 0, .int .u16 0, .int .u16 0, .slice none 0 0] := hz.out
  go_wp2_with (go_must (refine wpList_store_row rfl 44 _ _ rfl (w.heap.size + 1) #[.int .u16 h.age, .int .u8 h.opts, .int .u8 h.typ, .int .u32 h.id, .int .u32 h.adv, .int .i32 h.seq, .int .u16 h.sum, .int .u16 h.len, .slice none 0 0] rfl rfl 44 _ hz2 info_state rfl (by simp [Value.oneCell']) ?_))
  refine hK.out _ _ (HS.out.setRow_far (Nat.ne_of_lt (Nat.lt_succ_self _)) _) ?_
  clear hK K
  refine wpS_nil ?_
  go_wp2
  exact bodyPost_ret (results_cell_row rfl _ _ (w.heap.size + 1) 44 #[.int .u16 h.age, .int .u8 h.opts, .int .u8 h.typ, .int .u32 h.id, .int .u32 h.adv, .int .i32 h.seq, .int .u16 h.sum, .int .u16 h.len, .slice none 0 0] (0, 0) _ rfl (hz2.setRow _) Try.underlying44 rfl info_state) rfl ⟨rfl, below_setRow hb.out.drew (Nat.le_succ _) _⟩
@[reducible] def zeroSt : Value := .agg #[.int .u16 0, .int .u8 0, .int .u8 0, .int .u32 0, .int .u32 0, .int .i32 0, .int .u16 0, .int .u16 0, .slice none 0 0]
theorem zeroState (w : World) : (zeroValue 44).run Try.prog w = .ok zeroSt w := by kernel_rfl
/-- An empty list. -/
def L0 (w : World) (g bm : Nat) (r t : Int) : Prop := Blk w g 55 #[.int .u32 r, .int .u32 t, .slice none 0 0, .map (some bm)] ∧ MapL keyV w bm []
theorem new_any (r : Int) (w : World) (h0 : 1 ≤ r) (h1 : r ≤ 65535) : Calls Try.prog 13 #[.int .u16 r] w fun e w' => ∃ g bm, e = .returned (.tuple #[.pointer (some ⟨g, 0, none⟩), .int .i64 0]) ∧ L0 w' g bm r r ∧ w.heap.size ≤ g ∧ w.heap.size ≤ bm ∧ Below w.heap.size w w' := by
  have hb : (r == 0) = false := by rw [beq_eq_false_iff_ne]; omega
  have hmm := @run_makeMap Try.prog
  go_enter Try.func13, Try.ntmps13
  go_wp2
  go_ret2
  refine ⟨_, w.heap.size, rfl, ⟨new_at _ _ _, ?_⟩, Nat.le_succ _, Nat.le_refl _, below_two _ _ _⟩
  exact (MapL.new keyV w).later ((Below.refl _ _).alloc (Nat.le_refl _) _)
theorem none_any (w : World) (g bm : Nat) (hc : w.cell? ⟨g, 3, none⟩ = some (.map (some bm))) :
    Calls Try.prog 36 #[.pointer (some ⟨g, 0, none⟩)] w fun e w' => e = .returned (.bool false) ∧ w = w' := by
  have hE := fun W : World => run_eql_map_nil (P := Try.prog) W 53 46 44 (some bm) Try.underlying53
  simp only [Option.isNone_some] at hE
  go_enter Try.func36, Try.ntmps36
  go_wp2
  go_ret
  exact ⟨rfl, rfl⟩

/-- A list of one state. -/
structure L1 (w : World) (g bm gk c : Nat) (r t : Int) (h : Hd) : Prop where
  blk : Blk w g 55 #[.int .u32 r, .int .u32 t, .slice (some ⟨gk, 0, none⟩) 1 c, .map (some bm)]
  map : MapL keyV w bm [(h.key, stV h none 0 0)]
  k0 : w.cell? ⟨gk, 0, none⟩ = some (.int .u8 h.typ)
  k1 : w.cell? ⟨gk, 1, none⟩ = some (.int .u32 h.id)
  k2 : w.cell? ⟨gk, 2, none⟩ = some (.int .u32 h.adv)
  cap : 1 ≤ c ∧ c ≤ 9223372036854775807
theorem L1.later {w w' : World} {g bm gk c : Nat} {r t : Int} {h : Hd} (l : L1 w g bm gk c r t h) (hb : Below w.heap.size w w') : L1 w' g bm gk c r t h :=
  ⟨l.blk.later hb, l.map.later hb, (hb.cell (p := ⟨gk, 0, none⟩) (cell_lt l.k0)).trans l.k0, (hb.cell (p := ⟨gk, 1, none⟩) (cell_lt l.k1)).trans l.k1, (hb.cell (p := ⟨gk, 2, none⟩) (cell_lt l.k2)).trans l.k2, l.cap⟩
theorem L0.later {w w' : World} {g bm : Nat} {r t : Int} (l : L0 w g bm r t) (hb : Below w.heap.size w w') : L0 w' g bm r t := ⟨l.1.later hb, l.2.later hb⟩
def DropPost (w w' : World) (e : Ending) (x : Value) : Prop := e = .returned x ∧ Below w.heap.size w w'
set_option maxRecDepth 100000 in
set_option maxHeartbeats 1000000 in
/-- Drop on an empty list. -/
theorem drop0_any (w : World) (g bm : Nat) (r t : Int) (k : Int × Int × Int) (l : L0 w g bm r t) :
    Calls Try.prog 20 #[.pointer (some ⟨g, 0, none⟩), keyV k] w fun e w' => e = .returned (.bool false) ∧ Below w.heap.size w w' := by
  have hm : w.cell? ⟨g, 3, none⟩ = some (.map (some bm)) := l.1.cell 3
  have HN := Lib.hid (fun (W : World) (h : W.cell? ⟨g, 3, none⟩ = some (.map (some bm))) => none_any W g bm h)
  have hg := l.1.lt
  obtain ⟨k1, k2, k3⟩ := k
  go_enter Try.func20, Try.ntmps20
  go_wp2_with (go_at_call 36; refine (HN.out _ (by rw [World.cell?_alloc_lt _ _ _ hg]; exact hm)).mono ?_; rintro e w' ⟨rfl, rfl⟩)
  have HS : Hid ((fun W : World => W.cell? ⟨g, 3, none⟩ = some (.map (some bm)) ∧ Blk W w.heap.size 46 #[.int .u8 k1, .int .u32 k2, .int .u32 k3] ∧ MapL keyV W bm []) (w.alloc (.cells #[.int .u8 k1, .int .u32 k2, .int .u32 k3] 46)).drew) := by
    refine ⟨?_, Blk.new _ _ _, ?_⟩
    · show (w.alloc _).cell? _ = _
      rw [World.cell?_alloc_lt _ _ _ hg]; exact hm
    · exact l.2.later ((Below.refl _ _).alloc (Nat.le_refl _) _).drew
  have hb1 : Hid (Below w.heap.size w (w.alloc (.cells #[.int .u8 k1, .int .u32 k2, .int .u32 k3] 46)).drew) := ((Below.refl _ _).alloc (Nat.le_refl _) _).drew
  clear hm hg l HN
  refine wp_region_s (fun W : World => W.cell? ⟨g, 3, none⟩ = some (.map (some bm)) ∧ Blk W w.heap.size 46 #[.int .u8 k1, .int .u32 k2, .int .u32 k3] ∧ MapL keyV W bm [])
    [(0, true), (1, true), (2, true), (3, true), (4, true), (5, true), (6, true), (7, true), (8, true), (9, false), (10, false), (11, true)] (by kernel_rfl) (fun _ d _ _ _ h => by cases d <;> exact h) ?_
  simp only [List.map_cons, List.map_nil, nthOp_zero, nthOp_succ]
  generalize (w.alloc (.cells #[.int .u8 k1, .int .u32 k2, .int .u32 k3] 46)).drew = w1 at *
  refine wpS_take HS (by rfl) (by intro W hW; obtain ⟨hW1, hW2, hW3⟩ := hW; have j0 := hW2.cell 0; have j1 := hW2.cell 1; have j2 := hW2.cell 2; clear hW2 hW3; simp at j0 j1 j2; go_simp; try with_reducible rfl) ?_
  refine wpS_take HS (by rfl) (by intro W hW; obtain ⟨hW1, hW2, hW3⟩ := hW; have j0 := hW2.cell 0; have j1 := hW2.cell 1; have j2 := hW2.cell 2; clear hW2 hW3; simp at j0 j1 j2; go_simp; try with_reducible rfl) ?_
  refine wpS_take HS (by rfl) (by intro W hW; obtain ⟨hW1, hW2, hW3⟩ := hW; have j0 := hW2.cell 0; have j1 := hW2.cell 1; have j2 := hW2.cell 2; clear hW2 hW3; simp at j0 j1 j2; go_simp; try with_reducible rfl) ?_
  refine wpS_take HS (by rfl) (by intro W hW; obtain ⟨hW1, hW2, hW3⟩ := hW; have j0 := hW2.cell 0; have j1 := hW2.cell 1; have j2 := hW2.cell 2; clear hW2 hW3; simp at j0 j1 j2; go_simp; try with_reducible rfl) ?_
  refine wpS_take HS (by rfl) (by intro W hW; obtain ⟨hW1, hW2, hW3⟩ := hW; have j0 := hW2.cell 0; have j1 := hW2.cell 1; have j2 := hW2.cell 2; clear hW2 hW3; simp at j0 j1 j2; go_simp; try with_reducible rfl) ?_
  refine wpS_take HS (by rfl) (fun W hW => exec_lookupL (a := (k1, k2, k3)) keyT Try.underlying53 zeroState rfl hW.2.2 rfl rfl) ?_
  simp only [show lookedUp ([] : List ((Int × Int × Int) × Value)) (k1, k2, k3) zeroSt true = .tuple #[zeroSt, .bool false] from rfl]
  refine wpS_take HS (by rfl) (by intro W hW; obtain ⟨hW1, hW2, hW3⟩ := hW; have j0 := hW2.cell 0; have j1 := hW2.cell 1; have j2 := hW2.cell 2; clear hW2 hW3; simp at j0 j1 j2; go_simp; try with_reducible rfl) ?_
  refine wpS_take HS (by rfl) (by intro W hW; obtain ⟨hW1, hW2, hW3⟩ := hW; have j0 := hW2.cell 0; have j1 := hW2.cell 1; have j2 := hW2.cell 2; clear hW2 hW3; simp at j0 j1 j2; go_simp; try with_reducible rfl) ?_
  refine wpS_take HS (by rfl) (by intro W hW; obtain ⟨hW1, hW2, hW3⟩ := hW; have j0 := hW2.cell 0; have j1 := hW2.cell 1; have j2 := hW2.cell 2; clear hW2 hW3; simp at j0 j1 j2; go_simp; try with_reducible rfl) ?_
  refine wpS_do fun K hK => ?_
  go_wp2
  refine hK.out _ _ ⟨?_, HS.out.2.1.alloc _, HS.out.2.2.later ((Below.refl _ _).alloc (Nat.le_refl _) _)⟩ ?_
  · rw [World.cell?_alloc_lt _ _ _ (cell_lt HS.out.1)]; exact HS.out.1
  clear hK K
  have HS2 : Hid ((fun W : World => W.cell? ⟨g, 3, none⟩ = some (.map (some bm)) ∧ Blk W w.heap.size 46 #[.int .u8 k1, .int .u32 k2, .int .u32 k3] ∧ MapL keyV W bm []) (w1.alloc (.cells #[.int .u16 0, .int .u8 0, .int .u8 0, .int .u32 0, .int .u32 0, .int .i32 0, .int .u16 0, .int .u16 0, .slice none 0 0] 44))) :=
    ⟨by rw [World.cell?_alloc_lt _ _ _ (cell_lt HS.out.1)]; exact HS.out.1, HS.out.2.1.alloc _, HS.out.2.2.later ((Below.refl _ _).alloc (Nat.le_refl _) _)⟩
  refine wpS_do fun K hK => ?_
  go_wp2_with (refine wpList_store_row rfl 44 _ _ rfl w1.heap.size #[.int .u16 0, .int .u8 0, .int .u8 0, .int .u32 0, .int .u32 0, .int .i32 0, .int .u16 0, .int .u16 0, .slice none 0 0] rfl rfl 44 _ (heap_alloc_new w1 _) info_state rfl (by simp [Value.oneCell']) ?_; rw [World.setRow_alloc_new])
  refine hK.out _ _ HS2.out ?_
  clear hK K
  refine wpS_take HS2 (by rfl) (by intro W hW; go_simp; try with_reducible rfl) ?_
  refine wpS_nil ?_
  go_wp2
  go_ret
  exact ⟨rfl, hb1.out.alloc hb1.out.size _⟩

theorem info_key3 : (Try.prog.info? 46).map (fun i => (i.zero, i.size, i.bytes)) = some (some (.agg #[.int .u8 0, .int .u32 0, .int .u32 0]), 3, 12) := by kernel_rfl
theorem el_key : El Try.prog 52 46 3 12 := El.mk' Try.underlying52 info_key3 rfl (by omega)

set_option maxRecDepth 100000 in
set_option maxHeartbeats 2000000 in
/-- Add on an empty list. -/
theorem add0_any (w : World) (g bm : Nat) (r t : Int) (h : Hd) (l : L0 w g bm r t) :
    Calls Try.prog 15 #[.pointer (some ⟨g, 0, none⟩), stV h none 0 0] w fun e w' => e = .returned (.tuple #[]) ∧ (∃ gk c, L1 w' g bm gk c r r h) ∧ Kept (fun i => i = g ∨ i = bm) w w' := by
  have hm : w.cell? ⟨g, 3, none⟩ = some (.map (some bm)) := l.1.cell 3
  have h2 : w.cell? ⟨g, 2, none⟩ = some (.slice none 0 0) := l.1.cell 2
  have h1 : w.cell? ⟨g, 1, none⟩ = some (.int .u32 t) := l.1.cell 1
  have h0 : w.cell? ⟨g, 0, none⟩ = some (.int .u32 r) := l.1.cell 0
  have f1 := l.1.frozen 1
  have hg := l.1.lt
  have hne := l.2.ne_blk l.1
  have HN := Lib.hid (fun (W : World) (h : W.cell? ⟨g, 3, none⟩ = some (.map (some bm))) => none_any W g bm h)
  have HL := Lib.hid l
  have HST : Hid (Blk (w.alloc (.cells #[.int .u16 h.age, .int .u8 h.opts, .int .u8 h.typ, .int .u32 h.id, .int .u32 h.adv, .int .i32 h.seq, .int .u16 h.sum, .int .u16 h.len, .slice none 0 0] 44)) w.heap.size 44 #[.int .u16 h.age, .int .u8 h.opts, .int .u8 h.typ, .int .u32 h.id, .int .u32 h.adv, .int .i32 h.seq, .int .u16 h.sum, .int .u16 h.len, .slice none 0 0]) := Blk.new _ _ _
  clear l
  go_enter Try.func15, Try.ntmps15
  go_wp2_with (go_at_call 36; refine (HN.out _ (by rw [World.cell?_alloc_lt _ _ _ hg]; exact hm)).mono ?_; rintro e w' ⟨rfl, rfl⟩)
  have F1 : Hid (Blk ((w.setCell ⟨g, 1, none⟩ (.int .u32 r)).alloc (.cells #[.int .u16 h.age, .int .u8 h.opts, .int .u8 h.typ, .int .u32 h.id, .int .u32 h.adv, .int .i32 h.seq, .int .u16 h.sum, .int .u16 h.len, .slice none 0 0] 44)) w.heap.size 44 #[.int .u16 h.age, .int .u8 h.opts, .int .u8 h.typ, .int .u32 h.id, .int .u32 h.adv, .int .i32 h.seq, .int .u16 h.sum, .int .u16 h.len, .slice none 0 0] ∧ L0 ((w.setCell ⟨g, 1, none⟩ (.int .u32 r)).alloc (.cells #[.int .u16 h.age, .int .u8 h.opts, .int .u8 h.typ, .int .u32 h.id, .int .u32 h.adv, .int .i32 h.seq, .int .u16 h.sum, .int .u16 h.len, .slice none 0 0] 44)) g bm r r ∧
      Kept (fun i => i = g ∨ i = bm) w ((w.setCell ⟨g, 1, none⟩ (.int .u32 r)).alloc (.cells #[.int .u16 h.age, .int .u8 h.opts, .int .u8 h.typ, .int .u32 h.id, .int .u32 h.adv, .int .i32 h.seq, .int .u16 h.sum, .int .u16 h.len, .slice none 0 0] 44))) := by
    have hsz : (w.setCell ⟨g, 1, none⟩ (.int .u32 r)).heap.size = w.heap.size := by simp [World.setCell]
    refine ⟨?_, ⟨(HL.out.1.set_ 1 (.int .u32 r)).alloc _, ?_⟩, ((kept_setC w g 1 (.int .u32 r)).alloc _).mono (fun i _ hi => .inl hi)⟩
    · have := Blk.new (w.setCell ⟨g, 1, none⟩ (.int .u32 r)) 44 #[.int .u16 h.age, .int .u8 h.opts, .int .u8 h.typ, .int .u32 h.id, .int .u32 h.adv, .int .i32 h.seq, .int .u16 h.sum, .int .u16 h.len, .slice none 0 0]
      rw [hsz] at this
      exact this
    · exact HL.out.2.kept ((kept_setC w g 1 (.int .u32 r)).alloc _) hne
  clear hm h2 h1 h0 f1 hg HN HL HST
  generalize (w.setCell ⟨g, 1, none⟩ (.int .u32 r)).alloc (.cells #[.int .u16 h.age, .int .u8 h.opts, .int .u8 h.typ, .int .u32 h.id, .int .u32 h.adv, .int .i32 h.seq, .int .u16 h.sum, .int .u16 h.len, .slice none 0 0] 44) = w1 at *
  generalize w.heap.size = gs at *
  refine (key_any h w1).mono ?_
  rintro e w2 ⟨rfl, hb2⟩
  go_wp2_with fail
  refine (drop0_any w2 g bm r r h.key (F1.out.2.1.later hb2)).mono ?_
  rintro e w3 ⟨rfl, hb3⟩
  have hb13 := below_then hb2 hb3
  have F3 : Hid (Blk w3.drew gs 44 #[.int .u16 h.age, .int .u8 h.opts, .int .u8 h.typ, .int .u32 h.id, .int .u32 h.adv, .int .i32 h.seq, .int .u16 h.sum, .int .u16 h.len, .slice none 0 0] ∧ L0 w3.drew g bm r r ∧ Kept (fun i => i = g ∨ i = bm) w w3.drew) := ⟨F1.out.1.later hb13.drew, F1.out.2.1.later hb13.drew, (F1.out.2.2.trans (Kept.of_new hb13 _) (fun _ _ h => h)).drew⟩
  clear F1 hb2 hb3 hb13
  go_wp2_with fail
  have HS : Hid ((fun W : World => Blk W gs 44 #[.int .u16 h.age, .int .u8 h.opts, .int .u8 h.typ, .int .u32 h.id, .int .u32 h.adv, .int .i32 h.seq, .int .u16 h.sum, .int .u16 h.len, .slice none 0 0] ∧ W.cell? ⟨g, 2, none⟩ = some (.slice none 0 0)) w3.drew) := ⟨F3.out.1, F3.out.2.1.1.cell 2⟩
  refine wp_region_g (fun W : World => Blk W gs 44 #[.int .u16 h.age, .int .u8 h.opts, .int .u8 h.typ, .int .u32 h.id, .int .u32 h.adv, .int .i32 h.seq, .int .u16 h.sum, .int .u16 h.len, .slice none 0 0] ∧ W.cell? ⟨g, 2, none⟩ = some (.slice none 0 0))
    [.take 0, .take 1, .take 2, .take 3, .take 5, .take 4, .take 6, .one 7, .one 8, .one 9, .take 10, .take 11, .one 12] (by kernel_rfl) (fun _ d _ _ _ h => by cases d <;> exact h) ?_
  simp only [List.map_cons, List.map_nil, RStep.node, nthOp_zero, nthOp_succ]
  generalize w3.drew = w4 at *
  refine wpG_take HS (by rfl) (by intro W hW; obtain ⟨hW1, hW2⟩ := hW; have j0 := hW1.cell 0; have j1 := hW1.cell 1; have j2 := hW1.cell 2; have j3 := hW1.cell 3; have j4 := hW1.cell 4; have j5 := hW1.cell 5; have j6 := hW1.cell 6; have j7 := hW1.cell 7; have j8 := hW1.cell 8; clear hW1; simp at j0 j1 j2 j3 j4 j5 j6 j7 j8; go_simp; try with_reducible rfl) ?_
  refine wpG_take HS (by rfl) (by intro W hW; obtain ⟨hW1, hW2⟩ := hW; have j0 := hW1.cell 0; have j1 := hW1.cell 1; have j2 := hW1.cell 2; have j3 := hW1.cell 3; have j4 := hW1.cell 4; have j5 := hW1.cell 5; have j6 := hW1.cell 6; have j7 := hW1.cell 7; have j8 := hW1.cell 8; clear hW1; simp at j0 j1 j2 j3 j4 j5 j6 j7 j8; go_simp; try with_reducible rfl) ?_
  refine wpG_take HS (by rfl) (by intro W hW; obtain ⟨hW1, hW2⟩ := hW; have j0 := hW1.cell 0; have j1 := hW1.cell 1; have j2 := hW1.cell 2; have j3 := hW1.cell 3; have j4 := hW1.cell 4; have j5 := hW1.cell 5; have j6 := hW1.cell 6; have j7 := hW1.cell 7; have j8 := hW1.cell 8; clear hW1; simp at j0 j1 j2 j3 j4 j5 j6 j7 j8; go_simp; try with_reducible rfl) ?_
  refine wpG_take HS (by rfl) (by intro W hW; obtain ⟨hW1, hW2⟩ := hW; have j0 := hW1.cell 0; have j1 := hW1.cell 1; have j2 := hW1.cell 2; have j3 := hW1.cell 3; have j4 := hW1.cell 4; have j5 := hW1.cell 5; have j6 := hW1.cell 6; have j7 := hW1.cell 7; have j8 := hW1.cell 8; clear hW1; simp at j0 j1 j2 j3 j4 j5 j6 j7 j8; go_simp; try with_reducible rfl) ?_
  refine wpG_take HS (by rfl) (by intro W hW; obtain ⟨hW1, hW2⟩ := hW; have j0 := hW1.cell 0; have j1 := hW1.cell 1; have j2 := hW1.cell 2; have j3 := hW1.cell 3; have j4 := hW1.cell 4; have j5 := hW1.cell 5; have j6 := hW1.cell 6; have j7 := hW1.cell 7; have j8 := hW1.cell 8; clear hW1; simp at j0 j1 j2 j3 j4 j5 j6 j7 j8; go_simp; try with_reducible rfl) ?_
  refine wpG_take HS (by rfl) (by intro W hW; obtain ⟨hW1, hW2⟩ := hW; have j0 := hW1.cell 0; have j1 := hW1.cell 1; have j2 := hW1.cell 2; have j3 := hW1.cell 3; have j4 := hW1.cell 4; have j5 := hW1.cell 5; have j6 := hW1.cell 6; have j7 := hW1.cell 7; have j8 := hW1.cell 8; clear hW1; simp at j0 j1 j2 j3 j4 j5 j6 j7 j8; go_simp; try with_reducible rfl) ?_
  refine wpG_take HS (by rfl) (by intro W hW; obtain ⟨hW1, hW2⟩ := hW; have j0 := hW1.cell 0; have j1 := hW1.cell 1; have j2 := hW1.cell 2; have j3 := hW1.cell 3; have j4 := hW1.cell 4; have j5 := hW1.cell 5; have j6 := hW1.cell 6; have j7 := hW1.cell 7; have j8 := hW1.cell 8; clear hW1; simp at j0 j1 j2 j3 j4 j5 j6 j7 j8; go_simp; try with_reducible rfl) ?_
  refine wpG_do fun K hK => ?_
  go_wp2_with (go_at_call 37; refine (key_any h w4).mono ?_; rintro e w5 ⟨rfl, hb5⟩; have H5 := Lib.hid hb5; clear hb5)
  have HS5 : Hid ((fun W : World => Blk W gs 44 #[.int .u16 h.age, .int .u8 h.opts, .int .u8 h.typ, .int .u32 h.id, .int .u32 h.adv, .int .i32 h.seq, .int .u16 h.sum, .int .u16 h.len, .slice none 0 0] ∧ W.cell? ⟨g, 2, none⟩ = some (.slice none 0 0)) w5) := ⟨HS.out.1.later H5.out, (H5.out.cell (p := ⟨g, 2, none⟩) (cell_lt HS.out.2)).trans HS.out.2⟩
  refine hK.out _ _ HS5.out ?_
  clear hK K HS
  refine wpG_do fun K hK => ?_
  go_wp2
  have H6 : Hid (Below w5.heap.size w5 (w5.alloc (.cells #[.int .u8 h.typ, .int .u32 h.id, .int .u32 h.adv] 46)) ∧ Blk (w5.alloc (.cells #[.int .u8 h.typ, .int .u32 h.id, .int .u32 h.adv] 46)) w5.heap.size 46 #[.int .u8 h.typ, .int .u32 h.id, .int .u32 h.adv]) := ⟨(Below.refl _ _).alloc (Nat.le_refl _) _, Blk.new _ _ _⟩
  generalize w5.alloc (.cells #[.int .u8 h.typ, .int .u32 h.id, .int .u32 h.adv] 46) = w6 at *
  have HS6 : Hid ((fun W : World => Blk W gs 44 #[.int .u16 h.age, .int .u8 h.opts, .int .u8 h.typ, .int .u32 h.id, .int .u32 h.adv, .int .i32 h.seq, .int .u16 h.sum, .int .u16 h.len, .slice none 0 0] ∧ W.cell? ⟨g, 2, none⟩ = some (.slice none 0 0)) w6) := ⟨HS5.out.1.later H6.out.1, (H6.out.1.cell (p := ⟨g, 2, none⟩) (cell_lt HS5.out.2)).trans HS5.out.2⟩
  refine hK.out _ _ HS6.out ?_
  clear hK K HS5
  have HR6 : Hid (Reads w6 w6.heap.size 3 (some ⟨w5.heap.size, 0, none⟩) 1 [.int .u8 h.typ, .int .u32 h.id, .int .u32 h.adv]) := ⟨rfl, fun _ => ⟨_, rfl, H6.out.2.lt, fun j u hu => by rw [add_none, Nat.zero_add, H6.out.2.cell]; simpa using hu⟩⟩
  refine wpG_do fun K hK => ?_
  go_wp2_with (at_builtin; refine wpList_app el_key rfl (.tmp 28) (.tmp 32) rfl (World.ownsRow_nil w6 w6.heap.size 46 3) rfl HR6.out rfl (by intro u hu; simp at hu; rcases hu with rfl | rfl | rfl <;> rfl) (by simp [maxLen]) (by omega) (Nat.le_refl _) ?_; intro v7 w7 ho7 hb7 _ _; have H7 := Lib.hid (And.intro ho7 hb7); clear ho7 hb7)
  simp only [Nat.zero_add, List.nil_append] at H7
  have hb47 := below_then (below_then H5.out H6.out.1) H7.out.2
  have HS7 : Hid ((fun W : World => Blk W gs 44 #[.int .u16 h.age, .int .u8 h.opts, .int .u8 h.typ, .int .u32 h.id, .int .u32 h.adv, .int .i32 h.seq, .int .u16 h.sum, .int .u16 h.len, .slice none 0 0] ∧ W.cell? ⟨g, 2, none⟩ = some (.slice none 0 0)) w7) := ⟨HS6.out.1.later H7.out.2, (H7.out.2.cell (p := ⟨g, 2, none⟩) (cell_lt HS6.out.2)).trans HS6.out.2⟩
  have F7 : Hid (Blk w7 gs 44 #[.int .u16 h.age, .int .u8 h.opts, .int .u8 h.typ, .int .u32 h.id, .int .u32 h.adv, .int .i32 h.seq, .int .u16 h.sum, .int .u16 h.len, .slice none 0 0] ∧ L0 w7 g bm r r ∧ Kept (fun i => i = g ∨ i = bm) w w7) := ⟨F3.out.1.later hb47, F3.out.2.1.later hb47, F3.out.2.2.trans (Kept.of_new hb47 _) (fun _ _ h => h)⟩
  obtain ⟨gk, c, hv, hgk, hltk⟩ := H7.out.1.form (by omega)
  subst hv
  have HO := Lib.hid H7.out.1
  have hcap : Hid (1 ≤ c ∧ c ≤ 9223372036854775807) := by
    rcases H7.out.1.2 with ⟨h1, _⟩ | ⟨g', cap, cur, h1, _, _, h2, h3, _⟩
    · injection h1 with h1; cases h1
    · injection h1 with _ _ h4; unfold maxLen at h3; show _ ∧ _; omega
  clear F3 H5 H6 HR6 hb47 hgk hltk
  refine hK.out _ _ HS7.out ?_
  clear hK K HS6 H7
  refine wpG_take HS7 (by rfl) (by intro W hW; obtain ⟨hW1, hW2⟩ := hW; have j0 := hW1.cell 0; have j1 := hW1.cell 1; have j2 := hW1.cell 2; have j3 := hW1.cell 3; have j4 := hW1.cell 4; have j5 := hW1.cell 5; have j6 := hW1.cell 6; have j7 := hW1.cell 7; have j8 := hW1.cell 8; clear hW1; simp at j0 j1 j2 j3 j4 j5 j6 j7 j8; go_simp; try with_reducible rfl) ?_
  refine wpG_take HS7 (by rfl) (by intro W hW; obtain ⟨hW1, hW2⟩ := hW; have j0 := hW1.cell 0; have j1 := hW1.cell 1; have j2 := hW1.cell 2; have j3 := hW1.cell 3; have j4 := hW1.cell 4; have j5 := hW1.cell 5; have j6 := hW1.cell 6; have j7 := hW1.cell 7; have j8 := hW1.cell 8; clear hW1; simp at j0 j1 j2 j3 j4 j5 j6 j7 j8; go_simp; try with_reducible rfl) ?_
  have f2 := F7.out.2.1.1.frozen 2
  have c2 : w7.cell? ⟨g, 2, none⟩ = some (.slice none 0 0) := HS7.out.2
  refine wpG_last fun K hK => ?_
  go_wp2
  refine hK.out _ _ ?_
  clear hK K f2 c2 HS7
  have F8 : Hid (Blk (w7.setCell ⟨g, 2, none⟩ (.slice (some ⟨gk, 0, none⟩) 1 c)).drew gs 44 #[.int .u16 h.age, .int .u8 h.opts, .int .u8 h.typ, .int .u32 h.id, .int .u32 h.adv, .int .i32 h.seq, .int .u16 h.sum, .int .u16 h.len, .slice none 0 0] ∧ Blk (w7.setCell ⟨g, 2, none⟩ (.slice (some ⟨gk, 0, none⟩) 1 c)).drew g 55 #[.int .u32 r, .int .u32 r, .slice (some ⟨gk, 0, none⟩) 1 c, .map (some bm)] ∧
      MapL keyV (w7.setCell ⟨g, 2, none⟩ (.slice (some ⟨gk, 0, none⟩) 1 c)).drew bm [] ∧ Kept (fun i => i = g ∨ i = bm) w (w7.setCell ⟨g, 2, none⟩ (.slice (some ⟨gk, 0, none⟩) 1 c)).drew ∧
      (w7.setCell ⟨g, 2, none⟩ (.slice (some ⟨gk, 0, none⟩) 1 c)).drew.ownsRow w6.heap.size 46 3 (.slice (some ⟨gk, 0, none⟩) 1 c) 1 [.int .u8 h.typ, .int .u32 h.id, .int .u32 h.adv]) := by
    have hgs : gs ≠ g := blk_ne F7.out.1 F7.out.2.1.1 (by decide)
    have hk := kept_setC w7 g 2 (.slice (some ⟨gk, 0, none⟩) 1 c)
    exact ⟨F7.out.1.kept (S := fun j => j = g) hk.drew hgs, F7.out.2.1.1.set_ 2 _, F7.out.2.1.2.kept (S := fun j => j = g) hk.drew hne, (F7.out.2.2.trans hk (fun _ _ h => .inl h)).drew, own_setCell HO.out F7.out.2.1.1 (by decide) _⟩
  clear F7 HO
  go_wp2
  have HS : Hid ((fun W : World => Blk W gs 44 #[.int .u16 h.age, .int .u8 h.opts, .int .u8 h.typ, .int .u32 h.id, .int .u32 h.adv, .int .i32 h.seq, .int .u16 h.sum, .int .u16 h.len, .slice none 0 0] ∧ W.cell? ⟨g, 3, none⟩ = some (.map (some bm))) (w7.setCell ⟨g, 2, none⟩ (.slice (some ⟨gk, 0, none⟩) 1 c)).drew) := ⟨F8.out.1, F8.out.2.1.cell 3⟩
  refine wp_region_g (fun W : World => Blk W gs 44 #[.int .u16 h.age, .int .u8 h.opts, .int .u8 h.typ, .int .u32 h.id, .int .u32 h.adv, .int .i32 h.seq, .int .u16 h.sum, .int .u16 h.len, .slice none 0 0] ∧ W.cell? ⟨g, 3, none⟩ = some (.map (some bm)))
    [.take 0, .take 1, .take 2, .take 4, .take 3, .take 5, .take 7, .one 6, .one 8, .one 9] (by kernel_rfl) (fun _ d _ _ _ h => by cases d <;> exact h) ?_
  simp only [List.map_cons, List.map_nil, RStep.node, nthOp_zero, nthOp_succ]
  generalize (w7.setCell ⟨g, 2, none⟩ (.slice (some ⟨gk, 0, none⟩) 1 c)).drew = w8 at *
  refine wpG_take HS (by rfl) (by intro W hW; obtain ⟨hW1, hW2⟩ := hW; have j0 := hW1.cell 0; have j1 := hW1.cell 1; have j2 := hW1.cell 2; have j3 := hW1.cell 3; have j4 := hW1.cell 4; have j5 := hW1.cell 5; have j6 := hW1.cell 6; have j7 := hW1.cell 7; have j8 := hW1.cell 8; clear hW1; simp at j0 j1 j2 j3 j4 j5 j6 j7 j8; go_simp; try with_reducible rfl) ?_
  refine wpG_take HS (by rfl) (by intro W hW; obtain ⟨hW1, hW2⟩ := hW; have j0 := hW1.cell 0; have j1 := hW1.cell 1; have j2 := hW1.cell 2; have j3 := hW1.cell 3; have j4 := hW1.cell 4; have j5 := hW1.cell 5; have j6 := hW1.cell 6; have j7 := hW1.cell 7; have j8 := hW1.cell 8; clear hW1; simp at j0 j1 j2 j3 j4 j5 j6 j7 j8; go_simp; try with_reducible rfl) ?_
  refine wpG_take HS (by rfl) (by intro W hW; obtain ⟨hW1, hW2⟩ := hW; have j0 := hW1.cell 0; have j1 := hW1.cell 1; have j2 := hW1.cell 2; have j3 := hW1.cell 3; have j4 := hW1.cell 4; have j5 := hW1.cell 5; have j6 := hW1.cell 6; have j7 := hW1.cell 7; have j8 := hW1.cell 8; clear hW1; simp at j0 j1 j2 j3 j4 j5 j6 j7 j8; go_simp; try with_reducible rfl) ?_
  refine wpG_take HS (by rfl) (by intro W hW; obtain ⟨hW1, hW2⟩ := hW; have j0 := hW1.cell 0; have j1 := hW1.cell 1; have j2 := hW1.cell 2; have j3 := hW1.cell 3; have j4 := hW1.cell 4; have j5 := hW1.cell 5; have j6 := hW1.cell 6; have j7 := hW1.cell 7; have j8 := hW1.cell 8; clear hW1; simp at j0 j1 j2 j3 j4 j5 j6 j7 j8; go_simp; try with_reducible rfl) ?_
  refine wpG_take HS (by rfl) (by intro W hW; obtain ⟨hW1, hW2⟩ := hW; have j0 := hW1.cell 0; have j1 := hW1.cell 1; have j2 := hW1.cell 2; have j3 := hW1.cell 3; have j4 := hW1.cell 4; have j5 := hW1.cell 5; have j6 := hW1.cell 6; have j7 := hW1.cell 7; have j8 := hW1.cell 8; clear hW1; simp at j0 j1 j2 j3 j4 j5 j6 j7 j8; go_simp; try with_reducible rfl) ?_
  refine wpG_take HS (by rfl) (by intro W hW; obtain ⟨hW1, hW2⟩ := hW; have j0 := hW1.cell 0; have j1 := hW1.cell 1; have j2 := hW1.cell 2; have j3 := hW1.cell 3; have j4 := hW1.cell 4; have j5 := hW1.cell 5; have j6 := hW1.cell 6; have j7 := hW1.cell 7; have j8 := hW1.cell 8; clear hW1; simp at j0 j1 j2 j3 j4 j5 j6 j7 j8; go_simp; try with_reducible rfl) ?_
  refine wpG_take HS (by rfl) (by intro W hW; obtain ⟨hW1, hW2⟩ := hW; have j0 := hW1.cell 0; have j1 := hW1.cell 1; have j2 := hW1.cell 2; have j3 := hW1.cell 3; have j4 := hW1.cell 4; have j5 := hW1.cell 5; have j6 := hW1.cell 6; have j7 := hW1.cell 7; have j8 := hW1.cell 8; clear hW1; simp at j0 j1 j2 j3 j4 j5 j6 j7 j8; go_simp; try with_reducible rfl) ?_
  refine wpG_do fun K hK => ?_
  go_wp2_with (go_at_call 37; refine (key_any h w8).mono ?_; rintro e w9 ⟨rfl, hb9⟩; have H9 := Lib.hid hb9; clear hb9)
  have HS9 : Hid ((fun W : World => Blk W gs 44 #[.int .u16 h.age, .int .u8 h.opts, .int .u8 h.typ, .int .u32 h.id, .int .u32 h.adv, .int .i32 h.seq, .int .u16 h.sum, .int .u16 h.len, .slice none 0 0] ∧ W.cell? ⟨g, 3, none⟩ = some (.map (some bm))) w9) := ⟨HS.out.1.later H9.out, (H9.out.cell (p := ⟨g, 3, none⟩) (cell_lt HS.out.2)).trans HS.out.2⟩
  refine hK.out _ _ HS9.out ?_
  clear hK K
  refine wpG_do fun K hK => ?_
  go_wp2_with (go_at_call 38; refine (copied0_any h w9).mono ?_; rintro e w10 ⟨rfl, hb9⟩; have H10 := Lib.hid hb9; clear hb9)
  have hb810 := below_then H9.out H10.out
  have HS10 : Hid ((fun W : World => Blk W gs 44 #[.int .u16 h.age, .int .u8 h.opts, .int .u8 h.typ, .int .u32 h.id, .int .u32 h.adv, .int .i32 h.seq, .int .u16 h.sum, .int .u16 h.len, .slice none 0 0] ∧ W.cell? ⟨g, 3, none⟩ = some (.map (some bm))) w10) := ⟨HS.out.1.later hb810, (hb810.cell (p := ⟨g, 3, none⟩) (cell_lt HS.out.2)).trans HS.out.2⟩
  refine hK.out _ _ HS10.out ?_
  clear hK K
  have F10 : Hid (Blk w10 g 55 #[.int .u32 r, .int .u32 r, .slice (some ⟨gk, 0, none⟩) 1 c, .map (some bm)] ∧ MapL keyV w10 bm [] ∧ Kept (fun i => i = g ∨ i = bm) w w10 ∧
      w10.ownsRow w6.heap.size 46 3 (.slice (some ⟨gk, 0, none⟩) 1 c) 1 [.int .u8 h.typ, .int .u32 h.id, .int .u32 h.adv]) :=
    ⟨F8.out.2.1.later hb810, F8.out.2.2.1.later hb810, F8.out.2.2.2.1.trans (Kept.of_new hb810 _) (fun _ _ h => h), own_kept (S := fun _ => False) F8.out.2.2.2.2 (Kept.of_new hb810 _) (fun _ _ h => h)⟩
  clear hb810 HS HS9 HS10 H9 H10 F8
  refine wpG_last fun K hK => ?_
  go_wp2_with (refine wpList_storeL_new keyT Try.underlying53 rfl (.tmp 39) (.tmp 42) (.tmp 44) rfl F10.out.2.1 rfl h.key rfl (stV h none 0 0) rfl rfl ?_; intro w11 hm11 hk11; have H11 := Lib.hid (And.intro hm11 hk11); clear hm11 hk11)
  refine hK.out _ _ ?_
  clear hK K
  go_wp2
  go_end0
  have hO := own_kept F10.out.2.2.2 H11.out.2 (fun i hi hs => own_ne_map F10.out.2.1 F10.out.2.2.2 (by rw [hi, hs]))
  have hc := hO.cells (g := gk) rfl
  refine ⟨rfl, ⟨gk, c, F10.out.1.kept H11.out.2 (fun e => hne e.symm), H11.out.1, hc 0 _ rfl, hc 1 _ rfl, hc 2 _ rfl, hcap.out⟩, F10.out.2.2.1.trans H11.out.2 (fun _ _ h => .inr h)⟩
end Go.Proofs.Ytjkmehpokdaonaa
