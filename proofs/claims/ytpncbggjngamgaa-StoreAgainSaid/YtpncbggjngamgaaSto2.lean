/-
  The store in memory; none, New, Len, Put, Get, When, Drop. Printed by gen_sto2.py.
-/
import Derived.Test.YtpncbggjngamgaaStp
import Derived.Test.YtpncbggjngamgaaMapF
namespace Go.Proofs.Ytpncbggjngamgaa
set_option linter.unusedVariables false
open Go.RowKit

@[reducible] def OneE.v (x : OneE) : Value := .agg #[.int .u16 x.s.h.age, .int .u8 x.s.h.opts, .int .u8 x.s.h.typ, .int .u32 x.s.h.id, .int .u32 x.s.h.adv, .int .i32 x.s.h.seq, .int .u16 x.s.h.sum, .int .u16 x.s.h.len, .slice x.s.A x.s.n x.s.c, .int .i64 x.at_]
def zOne : OneE := ⟨⟨⟨0, 0, 0, 0, 0, 0, 0, 0⟩, none, 0, 0, []⟩, 0⟩
/-- A store: what is found at each key. -/
structure StF (w : World) (g bm : Nat) (most : Int) (f : Ky3 → Option OneE) (n : Nat) : Prop where
  blk : Blk w g 91 #[.map (some bm), .int .i64 most]
  map : MapF keyV w bm (fun k => (f k).map OneE.v) n
  good : ∀ k x, f k = some x → x.s.key = k ∧ x.s.rd w ∧ (0 ≤ x.at_ ∧ x.at_ ≤ 9223372036854775807)
theorem StF.later {w w' : World} {g bm : Nat} {most : Int} {f : Ky3 → Option OneE} {n : Nat} (h : StF w g bm most f n) (hb : Below w.heap.size w w') : StF w' g bm most f n :=
  ⟨h.blk.later hb, h.map.later hb, fun k x hk => ⟨(h.good k x hk).1, (h.good k x hk).2.1.later hb, (h.good k x hk).2.2⟩⟩
theorem exec_load_row {P : Program} {o : Oper} {a : Act} {w : World} {ty : TypeId} {x : Operand} (ho : o.op = .load ty x)
    {g : Nat} (hx : a.eval x = .pointer (some ⟨g, 0, none⟩)) {t : TypeId} {cs : Array Value} {d : TypeDesc} (hg : Blk w g t cs)
    (hu : P.underlying ty = some d) (hd : (match d with | .struct _ | .array _ _ => true | _ => false) = true) (hi : (P.info? ty).map (·.size) = some cs.size) :
    (execOp a.eval o).run P w = .ok (.value (.agg cs)) w := by
  unfold execOp
  simp only [ho, hx, Instr.loadAt, Instr.sureAddr, Sem.run_bind, Sem.run_pure, Result.andThen_ok, run_loadVar_row w g t ty cs (0, 0) d hg hu hd hi]
theorem info_one : (Try.prog.info? 103).map (·.size) = some 10 := by kernel_rfl
theorem zeroOne (w : World) : (zeroValue 103).run Try.prog w = .ok zOne.v w := by kernel_rfl
theorem maplen {T K E : TypeId} {enc : Ky3 → Value} {w : World} {b n : Nat} {f : Ky3 → Option Value} (hT : Try.prog.underlying T = some (.map K E)) (h : MapF enc w b f n) (ty : TypeId) : (Builtin.len_ #[T] ty #[.map (some b)]).run Try.prog w = .ok (.int .i64 (n : Int)) w := by
  obtain ⟨es, clock, L, h⟩ := h
  have hs : es.size = n := by
    have := congrArg List.length h.ents
    simp only [List.length_map, Array.length_toList] at this
    rw [this, h.len]
  simp [Builtin.len_, run_underlying hT, run_getMap h.heap, hs, goInt]
theorem stnone_any (w : World) (g bm : Nat) (hc : w.cell? ⟨g, 0, none⟩ = some (.map (some bm))) :
    Calls Try.prog 33 #[.pointer (some ⟨g, 0, none⟩)] w fun e w' => e = .returned (.bool false) ∧ w = w' := by
  have hE := fun W : World => run_eql_map_nil (P := Try.prog) W 89 45 103 (some bm) Try.underlying89
  simp only [Option.isNone_some] at hE
  go_enter Try.func33, Try.ntmps33
  go_wp2
  go_ret
  exact ⟨rfl, rfl⟩
theorem stnew_any (m : Int) (w : World) (h0 : 1 ≤ m) (h1 : m ≤ 4096) : Calls Try.prog 22 #[.int .i64 m] w fun e w' => ∃ g bm, e = .returned (.pointer (some ⟨g, 0, none⟩)) ∧ StF w' g bm m (fun _ => none) 0 ∧ w.heap.size ≤ g ∧ w.heap.size ≤ bm ∧ Below w.heap.size w w' := by
  have hmm := @run_makeMap Try.prog
  have d1 : decide (m < 1) = false := decide_eq_false (by omega)
  have d2 : decide (4096 < m) = false := decide_eq_false (by omega)
  go_enter Try.func22, Try.ntmps22
  go_wp2
  go_ret
  refine ⟨_, w.heap.size, rfl, ⟨new_at _ _ _, (MapF.new keyV w).later ((Below.refl _ _).alloc (Nat.le_refl _) _), fun k x h => by cases h⟩, Nat.le_succ _, Nat.le_refl _, below_two _ _ _⟩
theorem stlen_any (w : World) (g bm : Nat) (most : Int) (f : Ky3 → Option OneE) (n : Nat) (q : StF w g bm most f n) :
    Calls Try.prog 13 #[.pointer (some ⟨g, 0, none⟩)] w fun e w' => e = .returned (.int .i64 (n : Int)) ∧ w = w' := by
  have h0 : w.cell? ⟨g, 0, none⟩ = some (.map (some bm)) := q.blk.cell 0
  have HN := Lib.hid (stnone_any w g bm h0)
  have hl := maplen (T := 89) Try.underlying89 q.map
  clear q
  go_enter Try.func13, Try.ntmps13
  go_wp2_with (go_at_call 33; refine HN.out.mono ?_; rintro e w' ⟨rfl, rfl⟩)
  go_ret
  exact ⟨rfl, rfl⟩
theorem lookS (f : Ky3 → Option OneE) (k : Ky3) : ∃ x b, lookF (fun k => (f k).map OneE.v) k zOne.v true = .tuple #[OneE.v x, .bool b] ∧ ((f k = some x ∧ b = true) ∨ (f k = none ∧ b = false ∧ x = zOne)) := by
  unfold lookF
  cases h : f k with
  | none => exact ⟨zOne, false, by simp [h], .inr ⟨rfl, rfl, rfl⟩⟩
  | some x => exact ⟨x, true, by simp [h], .inl ⟨rfl, rfl⟩⟩
set_option maxRecDepth 100000 in
set_option maxHeartbeats 4000000 in
theorem stwhen_any (w : World) (g bm : Nat) (most : Int) (f : Ky3 → Option OneE) (n : Nat) (q : StF w g bm most f n) (k : Ky3) :
    Calls Try.prog 28 #[.pointer (some ⟨g, 0, none⟩), keyV k] w fun e w' => e = .returned (.tuple #[.int .i64 ((f k).getD zOne).at_, .bool (f k).isSome]) ∧ Below w.heap.size w w' := by
  obtain ⟨k1, k2, k3⟩ := k
  have hb0 : Below w.heap.size w (w.alloc (.cells #[.int .u8 k1, .int .u32 k2, .int .u32 k3] 45)) := (Below.refl _ _).alloc (Nat.le_refl _) _
  have HQ := Lib.hid (q.later hb0)
  have HK0 : Hid (Blk (w.alloc (.cells #[.int .u8 k1, .int .u32 k2, .int .u32 k3] 45)) w.heap.size 45 #[.int .u8 k1, .int .u32 k2, .int .u32 k3]) := Lib.hid (Blk.new _ _ _)
  have HB0 := Lib.hid hb0
  have HN := Lib.hid (stnone_any _ g bm (show (w.alloc (.cells #[.int .u8 k1, .int .u32 k2, .int .u32 k3] 45)).cell? ⟨g, 0, none⟩ = some (.map (some bm)) from HQ.out.blk.cell 0))
  obtain ⟨x, b, hx, hxb⟩ := lookS f (k1, k2, k3)
  obtain ⟨⟨⟨yage, yopts, ytyp, yid, yadv, yseq, ysum, ylen⟩, yA, yn, yc, yB⟩, yat⟩ := x
  have HLK := Lib.hid hx
  have HXB := Lib.hid hxb
  clear q hb0 hx hxb
  go_enter Try.func28, Try.ntmps28
  go_wp2_with (go_at_call 33; refine HN.out.mono ?_; rintro e w' ⟨rfl, rfl⟩)
  generalize w.alloc (.cells #[.int .u8 k1, .int .u32 k2, .int .u32 k3] 45) = w1 at *
  generalize hgk : w.heap.size = gk at *
  refine wp_region_s (fun W : World => Blk W g 91 #[.map (some bm), .int .i64 most] ∧ Blk W gk 45 #[.int .u8 k1, .int .u32 k2, .int .u32 k3] ∧ MapF keyV W bm (fun k => (f k).map OneE.v) n) [(0, true), (1, true), (2, true), (3, true), (4, true), (5, true), (6, true), (7, true), (8, true), (9, false), (10, false), (11, true)] (by kernel_rfl) (fun _ d _ _ _ h => by cases d <;> exact h) ?_
  simp only [List.map_cons, List.map_nil, nthOp_zero, nthOp_succ]
  have HS : Hid ((fun W : World => Blk W g 91 #[.map (some bm), .int .i64 most] ∧ Blk W gk 45 #[.int .u8 k1, .int .u32 k2, .int .u32 k3] ∧ MapF keyV W bm (fun k => (f k).map OneE.v) n) w1.drew) := Lib.hid ⟨(HQ.out.later (Below.refl _ _).drew).blk, HK0.out.later (Below.refl _ _).drew, (HQ.out.later (Below.refl _ _).drew).map⟩
  have hbd : Below w1.heap.size w1 w1.drew := (Below.refl _ _).drew
  have HBD := Lib.hid hbd
  clear hbd
  generalize hwd : w1.drew = w2 at *
  clear hwd
  refine wpS_take HS (by kernel_rfl) (by intro W hW; have j0 := hW.1.cell 0; have j1 := hW.1.cell 1; simp only [List.getElem?_toArray, List.getElem?_cons_zero, List.getElem?_cons_succ] at j0 j1; clear hW; go_simp; try with_reducible rfl) ?_
  refine wpS_take HS (by kernel_rfl) (by intro W hW; have j0 := hW.1.cell 0; have j1 := hW.1.cell 1; simp only [List.getElem?_toArray, List.getElem?_cons_zero, List.getElem?_cons_succ] at j0 j1; clear hW; go_simp; try with_reducible rfl) ?_
  refine wpS_take HS (by kernel_rfl) (by intro W hW; have j0 := hW.1.cell 0; have j1 := hW.1.cell 1; simp only [List.getElem?_toArray, List.getElem?_cons_zero, List.getElem?_cons_succ] at j0 j1; clear hW; go_simp; try with_reducible rfl) ?_
  refine wpS_take HS (by kernel_rfl) (by intro W hW; have j0 := hW.1.cell 0; have j1 := hW.1.cell 1; simp only [List.getElem?_toArray, List.getElem?_cons_zero, List.getElem?_cons_succ] at j0 j1; clear hW; go_simp; try with_reducible rfl) ?_
  refine wpS_take HS (by kernel_rfl) (fun W hW => exec_load_row rfl rfl hW.2.1 Try.underlying45 rfl info_key3) ?_
  refine wpS_take HS (by kernel_rfl) (fun W hW => exec_lookupF (a := (k1, k2, k3)) keyT Try.underlying89 zeroOne rfl hW.2.2 rfl rfl) ?_
  simp only [HLK.out]
  refine wpS_take HS (by kernel_rfl) (by intro W hW; have j0 := hW.1.cell 0; have j1 := hW.1.cell 1; simp only [List.getElem?_toArray, List.getElem?_cons_zero, List.getElem?_cons_succ] at j0 j1; clear hW; go_simp; try with_reducible rfl) ?_
  refine wpS_take HS (by kernel_rfl) (by intro W hW; have j0 := hW.1.cell 0; have j1 := hW.1.cell 1; simp only [List.getElem?_toArray, List.getElem?_cons_zero, List.getElem?_cons_succ] at j0 j1; clear hW; go_simp; try with_reducible rfl) ?_
  refine wpS_take HS (by kernel_rfl) (by intro W hW; have j0 := hW.1.cell 0; have j1 := hW.1.cell 1; simp only [List.getElem?_toArray, List.getElem?_cons_zero, List.getElem?_cons_succ] at j0 j1; clear hW; go_simp; try with_reducible rfl) ?_
  refine wpS_do fun K hK => ?_
  go_wp2
  have hba : Below w2.heap.size w2 (w2.alloc (.cells #[.int .u16 0, .int .u8 0, .int .u8 0, .int .u32 0, .int .u32 0, .int .i32 0, .int .u16 0, .int .u16 0, .slice none 0 0, .int .i64 0] 103)) := (Below.refl _ _).alloc (Nat.le_refl _) _
  refine hK.out _ _ ⟨HS.out.1.later hba, HS.out.2.1.later hba, HS.out.2.2.later hba⟩ ?_
  clear hK K hba
  refine wpS_do fun K hK => ?_
  go_wp2_with (go_must (refine wpList_store_row rfl 103 _ _ rfl w2.heap.size #[.int .u16 yage, .int .u8 yopts, .int .u8 ytyp, .int .u32 yid, .int .u32 yadv, .int .i32 yseq, .int .u16 ysum, .int .u16 ylen, .slice yA yn yc, .int .i64 yat] rfl rfl 103 _ (heap_alloc_new w2 _) info_one rfl (by simp [Value.oneCell']) ?_; rw [World.setRow_alloc_new]))
  have hb1 : Below w2.heap.size w2 (w2.alloc (.cells #[.int .u16 yage, .int .u8 yopts, .int .u8 ytyp, .int .u32 yid, .int .u32 yadv, .int .i32 yseq, .int .u16 ysum, .int .u16 ylen, .slice yA yn yc, .int .i64 yat] 103)) := (Below.refl _ _).alloc (Nat.le_refl _) _
  have HX : Hid (Blk (w2.alloc (.cells #[.int .u16 yage, .int .u8 yopts, .int .u8 ytyp, .int .u32 yid, .int .u32 yadv, .int .i32 yseq, .int .u16 ysum, .int .u16 ylen, .slice yA yn yc, .int .i64 yat] 103)) w2.heap.size 103 #[.int .u16 yage, .int .u8 yopts, .int .u8 ytyp, .int .u32 yid, .int .u32 yadv, .int .i32 yseq, .int .u16 ysum, .int .u16 ylen, .slice yA yn yc, .int .i64 yat]) := Lib.hid (Blk.new _ _ _)
  replace HS : Hid ((fun W : World => Blk W g 91 #[.map (some bm), .int .i64 most] ∧ Blk W gk 45 #[.int .u8 k1, .int .u32 k2, .int .u32 k3] ∧ MapF keyV W bm (fun k => (f k).map OneE.v) n) (w2.alloc (.cells #[.int .u16 yage, .int .u8 yopts, .int .u8 ytyp, .int .u32 yid, .int .u32 yadv, .int .i32 yseq, .int .u16 ysum, .int .u16 ylen, .slice yA yn yc, .int .i64 yat] 103))) := Lib.hid ⟨HS.out.1.later hb1, HS.out.2.1.later hb1, HS.out.2.2.later hb1⟩
  have HB1 := Lib.hid hb1
  clear hb1
  refine hK.out _ _ HS.out ?_
  clear hK K
  generalize hg1 : w2.alloc (.cells #[.int .u16 yage, .int .u8 yopts, .int .u8 ytyp, .int .u32 yid, .int .u32 yadv, .int .i32 yseq, .int .u16 ysum, .int .u16 ylen, .slice yA yn yc, .int .i64 yat] 103) = w3 at *
  clear hg1
  generalize hgx : w2.heap.size = gx at *
  refine wpS_take HS (by kernel_rfl) (by intro W hW; have j0 := hW.1.cell 0; have j1 := hW.1.cell 1; simp only [List.getElem?_toArray, List.getElem?_cons_zero, List.getElem?_cons_succ] at j0 j1; clear hW; go_simp; try with_reducible rfl) ?_
  refine wpS_nil ?_
  go_simp
  have j9 : w3.cell? ⟨gx, 9, none⟩ = some (.int .i64 yat) := HX.out.cell 9
  go_wp2
  go_ret2
  subst hgk
  subst hgx
  refine ⟨?_, below_then (below_then HB0.out HBD.out) HB1.out⟩
  rcases HXB.out with ⟨h, rfl⟩ | ⟨h, rfl, h2⟩
  · rw [h]; rfl
  · have e : yat = 0 := congrArg OneE.at_ h2
    rw [h, e]; rfl
end Go.Proofs.Ytpncbggjngamgaa
