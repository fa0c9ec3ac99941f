/-
  packet's alone: has a packet nothing but what its type has? Printed by gen_pk5.py.
-/
import Derived.Test.YtbkejlalbjomkaaPk4
namespace Go.Proofs.Ytbkejlalbjomkaa
set_option linter.unusedVariables false
open Go.RowKit

theorem info_hello : (Try.prog.info? 26).map (·.size) = some 8 := by kernel_rfl
theorem info_dd : (Try.prog.info? 29).map (·.size) = some 5 := by kernel_rfl
def PA.helloS (p : PA) : Prop := ¬ (p.mask = 0 ∧ p.ivl = 0 ∧ p.hopts = 0 ∧ p.pri = 0 ∧ p.dead = 0 ∧ p.dr = 0 ∧ p.bdr = 0 ∧ p.nn = 0)
def PA.ddS (p : PA) : Prop := ¬ (p.mtu = 0 ∧ p.dopts = 0 ∧ p.flags = 0 ∧ p.seq = 0 ∧ p.dn = 0)
def PA.alone (p : PA) : Prop := (p.helloS → p.typ = 1) ∧ (p.ddS → p.typ = 2) ∧ (0 < p.kn → p.typ = 3) ∧ (0 < p.sn → p.typ = 4) ∧ (0 < p.hn → p.typ = 5)
def AlonePost (w w' : World) (p : PA) (e : Ending) : Prop := ∃ b, e = .returned (.bool b) ∧ (b = true ↔ p.alone) ∧ Below w.heap.size w w'
def AlQ (w : World) (p : PA) (gk : Nat) (e : Exit) (a : Act) (W : World) : Prop :=
  e = .normal ∧ ∃ (gf : Nat) (b1 b2 b3 b4 b5 : Bool) (u3 u4 u8 u9 u10 u11 u12 u13 u14 u15 u16 u17 u18 u19 u20 u21 u22 u23 u24 u25 u26 u27 u28 u29 u30 u31 u32 u33 u34 u35 u36 u37 u38 u39 u40 u41 u42 u43 u44 u45 u46 u47 u48 u49 u50 u51 u52 u53 u54 u55 u56 u57 u58 u59 u60 u61 u62 u63 u64 u65 u66 u67 u68 u69 u70 u71 u72 u73 u74 u75 u76 u77 u78 u79 u80 u81 u82 u83 u84 u85 u86 u87 : Value), a = { tmps := List.toArray (.agg #[.int .u8 p.typ, .int .u32 p.router, .int .u32 p.area, .int .u32 p.mask, .int .u16 p.ivl, .int .u8 p.hopts, .int .u8 p.pri, .int .u32 p.dead, .int .u32 p.dr, .int .u32 p.bdr, .slice p.NA p.nn p.nc, .int .u16 p.mtu, .int .u8 p.dopts, .int .u8 p.flags, .int .u32 p.seq, .slice p.DA p.dn p.dc, .slice p.KA p.kn p.kc, .slice p.SA p.sn p.sc, .slice p.HA p.hn p.hc] :: .pointer (some ⟨gk, 0, none⟩) :: .bool false :: u3 :: u4 :: .pointer (some ⟨gf, 0, none⟩) :: undef :: undef :: u8 :: u9 :: u10 :: u11 :: u12 :: u13 :: u14 :: u15 :: u16 :: u17 :: u18 :: u19 :: u20 :: u21 :: u22 :: u23 :: u24 :: u25 :: u26 :: u27 :: u28 :: u29 :: u30 :: u31 :: u32 :: u33 :: u34 :: u35 :: u36 :: u37 :: u38 :: u39 :: u40 :: u41 :: u42 :: u43 :: u44 :: u45 :: u46 :: u47 :: u48 :: u49 :: u50 :: u51 :: u52 :: u53 :: u54 :: u55 :: u56 :: u57 :: u58 :: u59 :: u60 :: u61 :: u62 :: u63 :: u64 :: u65 :: u66 :: u67 :: u68 :: u69 :: u70 :: u71 :: u72 :: u73 :: u74 :: u75 :: u76 :: u77 :: u78 :: u79 :: u80 :: u81 :: u82 :: u83 :: u84 :: u85 :: u86 :: u87 :: undef :: undef :: undef :: undef :: undef :: undef :: undef :: undef :: undef :: undef :: undef :: undef :: undef :: undef :: []), defers := [] } ∧
    Hid (Blk W gf 122 #[.bool false, .bool b1, .bool b2, .bool b3, .bool b4, .bool b5] ∧ (b1 = true ↔ p.helloS) ∧ (b2 = true ↔ p.ddS) ∧ (b3 = true ↔ 0 < p.kn) ∧ (b4 = true ↔ 0 < p.sn) ∧ (b5 = true ↔ 0 < p.hn) ∧ Blk W gk 33 #[.int .u8 p.typ, .int .u32 p.router, .int .u32 p.area, .int .u32 p.mask, .int .u16 p.ivl, .int .u8 p.hopts, .int .u8 p.pri, .int .u32 p.dead, .int .u32 p.dr, .int .u32 p.bdr, .slice p.NA p.nn p.nc, .int .u16 p.mtu, .int .u8 p.dopts, .int .u8 p.flags, .int .u32 p.seq, .slice p.DA p.dn p.dc, .slice p.KA p.kn p.kc, .slice p.SA p.sn p.sc, .slice p.HA p.hn p.hc] ∧ Below w.heap.size w W)
theorem wpL_take {P : Program} {ops : Array Oper} {Q : Exit → Act → World → Prop} {o : Oper} {r : List Oper} {a : Act} {w : World} {v : Value}
    (hw : Region.wanted o (yielded ops a.tmps) = true) (hv : (execOp a.eval o).run P w = .ok (.value v) w) (h : wpList P ops Q r (a.put o.dst v) w) : wpList P ops Q (o :: r) a w :=
  wpList_step fun K hK => by rw [if_pos hw]; show o.upon P a K Q _; rw [hv]; exact hK _ _ h
theorem wpL_grp {P : Program} {ops : Array Oper} {Q : Exit → Act → World → Prop} {o2 o3 o4 o5 : Oper} {r : List Oper} {a : Act} {w : World} {v2 v3 : Value} {b c g : Bool} (j : Nat) (hbc : (b || c) = g)
    (g2 : o2.guard = some (j, false)) (g3 : o3.guard = some (j, false)) (g4 : o4.guard = some (j, false)) (g5 : o5.guard = none)
    (y2 : yielded ops a.tmps j = some b) (y3 : ∀ v, yielded ops (a.put o2.dst v).tmps j = some b) (y4 : ∀ v v', yielded ops ((a.put o2.dst v).put o3.dst v').tmps j = some b)
    (h2 : (execOp a.eval o2).run P w = .ok (.value v2) w) (h3 : (execOp (a.put o2.dst v2).eval o3).run P w = .ok (.value v3) w)
    (h4 : (execOp ((a.put o2.dst v2).put o3.dst v3).eval o4).run P w = .ok (.value (.bool c)) w)
    (h5 : ∀ u2 u3 u4, (b = true ∨ (b = false ∧ u4 = .bool c)) → (execOp (((a.put o2.dst u2).put o3.dst u3).put o4.dst u4).eval o5).run P w = .ok (.value (.bool (b || c))) w)
    (h : ∀ u2 u3 u4, wpList P ops Q r ((((a.put o2.dst u2).put o3.dst u3).put o4.dst u4).put o5.dst (.bool g)) w) : wpList P ops Q (o2 :: o3 :: o4 :: o5 :: r) a w := by
  have wt : ∀ (o : Oper) (y : Nat → Option Bool), o.guard = some (j, false) → y j = some b → Region.wanted o y = !b := fun o y hg hy => by
    unfold Region.wanted
    rw [hg]
    show (y j == some false) = _
    rw [hy]
    cases b <;> rfl
  have w5 : ∀ y : Nat → Option Bool, Region.wanted o5 y = true := fun y => by
    unfold Region.wanted
    rw [g5]
  cases b with
  | true =>
    refine wpList_skip (wt _ _ g2 y2) (wpList_skip (wt _ _ g3 (y3 _)) (wpList_skip (wt _ _ g4 (y4 _ _)) (wpL_take (w5 _) (h5 _ _ _ (.inl rfl)) ?_)))
    rw [hbc]
    exact h _ _ _
  | false =>
    refine wpL_take (wt _ _ g2 y2) h2 (wpL_take (wt _ _ g3 (y3 _)) h3 (wpL_take (wt _ _ g4 (y4 _ _)) h4 (wpL_take (w5 _) (h5 _ _ _ (.inr ⟨rfl, rfl⟩)) ?_)))
    rw [hbc]
    exact h _ _ _
theorem wpL_grp5 {P : Program} {ops : Array Oper} {Q : Exit → Act → World → Prop} {o2 o3 o6 o4 o5 : Oper} {r : List Oper} {a : Act} {w : World} {v2 v3 v6 : Value} {b c g : Bool} (j : Nat) (hbc : (b || c) = g)
    (g2 : o2.guard = some (j, false)) (g3 : o3.guard = some (j, false)) (g6 : o6.guard = some (j, false)) (g4 : o4.guard = some (j, false)) (g5 : o5.guard = none)
    (y2 : yielded ops a.tmps j = some b) (y3 : ∀ v, yielded ops (a.put o2.dst v).tmps j = some b) (y6 : ∀ v v', yielded ops ((a.put o2.dst v).put o3.dst v').tmps j = some b) (y4 : ∀ v v' v'', yielded ops (((a.put o2.dst v).put o3.dst v').put o6.dst v'').tmps j = some b)
    (h2 : (execOp a.eval o2).run P w = .ok (.value v2) w) (h3 : (execOp (a.put o2.dst v2).eval o3).run P w = .ok (.value v3) w) (h6 : (execOp ((a.put o2.dst v2).put o3.dst v3).eval o6).run P w = .ok (.value v6) w)
    (h4 : (execOp (((a.put o2.dst v2).put o3.dst v3).put o6.dst v6).eval o4).run P w = .ok (.value (.bool c)) w)
    (h5 : ∀ u2 u3 u6 u4, (b = true ∨ (b = false ∧ u4 = .bool c)) → (execOp ((((a.put o2.dst u2).put o3.dst u3).put o6.dst u6).put o4.dst u4).eval o5).run P w = .ok (.value (.bool (b || c))) w)
    (h : ∀ u2 u3 u6 u4, wpList P ops Q r (((((a.put o2.dst u2).put o3.dst u3).put o6.dst u6).put o4.dst u4).put o5.dst (.bool g)) w) : wpList P ops Q (o2 :: o3 :: o6 :: o4 :: o5 :: r) a w := by
  have wt : ∀ (o : Oper) (y : Nat → Option Bool), o.guard = some (j, false) → y j = some b → Region.wanted o y = !b := fun o y hg hy => by
    unfold Region.wanted
    rw [hg]
    show (y j == some false) = _
    rw [hy]
    cases b <;> rfl
  have w5 : ∀ y : Nat → Option Bool, Region.wanted o5 y = true := fun y => by
    unfold Region.wanted
    rw [g5]
  cases b with
  | true =>
    refine wpList_skip (wt _ _ g2 y2) (wpList_skip (wt _ _ g3 (y3 _)) (wpList_skip (wt _ _ g6 (y6 _ _)) (wpList_skip (wt _ _ g4 (y4 _ _ _)) (wpL_take (w5 _) (h5 _ _ _ _ (.inl rfl)) ?_))))
    rw [hbc]
    exact h _ _ _ _
  | false =>
    refine wpL_take (wt _ _ g2 y2) h2 (wpL_take (wt _ _ g3 (y3 _)) h3 (wpL_take (wt _ _ g6 (y6 _ _)) h6 (wpL_take (wt _ _ g4 (y4 _ _ _)) h4 (wpL_take (w5 _) (h5 _ _ _ _ (.inr ⟨rfl, rfl⟩)) ?_))))
    rw [hbc]
    exact h _ _ _ _
theorem hello_iff (p : PA) : ((((((((p.mask != 0) || (p.ivl != 0)) || (p.hopts != 0)) || (p.pri != 0)) || (p.dead != 0)) || (p.dr != 0)) || (p.bdr != 0)) || decide (0 < p.nn)) = true ↔ p.helloS := by
  unfold PA.helloS
  simp only [Bool.or_eq_true, bne_iff_ne, ne_eq, decide_eq_true_eq]
  omega
theorem dd_iff (p : PA) : (((((p.mtu != 0) || (p.dopts != 0)) || (p.flags != 0)) || (p.seq != 0)) || decide (0 < p.dn)) = true ↔ p.ddS := by
  unfold PA.ddS
  simp only [Bool.or_eq_true, bne_iff_ne, ne_eq, decide_eq_true_eq]
  omega
/-- What the row of answers says of a type. -/
def abit (b1 b2 b3 b4 b5 : Bool) (t : Nat) : Bool := (t == 1 && b1) || (t == 2 && b2) || (t == 3 && b3) || (t == 4 && b4) || (t == 5 && b5)
def AlI (b1 b2 b3 b4 b5 : Bool) (p : PA) (i : Nat) : Prop := ∀ t, t < i → abit b1 b2 b3 b4 b5 t = true → (t : Int) = p.typ
theorem AlI.zero (b1 b2 b3 b4 b5 : Bool) (p : PA) : AlI b1 b2 b3 b4 b5 p 0 := fun t h => absurd h (by omega)
theorem AlI.next {b1 b2 b3 b4 b5 : Bool} {p : PA} {i : Nat} (h : AlI b1 b2 b3 b4 b5 p i) (h2 : abit b1 b2 b3 b4 b5 i = false ∨ (i : Int) = p.typ) : AlI b1 b2 b3 b4 b5 p (i + 1) := fun t ht hb => by
  rcases Nat.lt_or_ge t i with hl | hl
  · exact h t hl hb
  · obtain rfl : t = i := by omega
    rcases h2 with h2 | h2
    · rw [h2] at hb; cases hb
    · exact h2
theorem AlI.all {b1 b2 b3 b4 b5 : Bool} {p : PA} (h : AlI b1 b2 b3 b4 b5 p 6) (e1 : b1 = true ↔ p.helloS) (e2 : b2 = true ↔ p.ddS) (e3 : b3 = true ↔ 0 < p.kn) (e4 : b4 = true ↔ 0 < p.sn) (e5 : b5 = true ↔ 0 < p.hn) : p.alone := by
  refine ⟨fun hh => ?_, fun hh => ?_, fun hh => ?_, fun hh => ?_, fun hh => ?_⟩
  · exact (h 1 (by omega) (by simp [abit, e1.2 hh])).symm
  · exact (h 2 (by omega) (by simp [abit, e2.2 hh])).symm
  · exact (h 3 (by omega) (by simp [abit, e3.2 hh])).symm
  · exact (h 4 (by omega) (by simp [abit, e4.2 hh])).symm
  · exact (h 5 (by omega) (by simp [abit, e5.2 hh])).symm
def AlR (b1 b2 b3 b4 b5 : Bool) (p : PA) (w5 : World) (iv : Value) (W : World) : Prop := ∃ i : Nat, iv = .int .i64 i ∧ i ≤ 6 ∧ Hid (AlI b1 b2 b3 b4 b5 p i) ∧ ∃ d, W = w5.drewN d
def AlS (gk : Nat) (p : PA) (W : World) : Prop := Blk W gk 33 #[.int .u8 p.typ, .int .u32 p.router, .int .u32 p.area, .int .u32 p.mask, .int .u16 p.ivl, .int .u8 p.hopts, .int .u8 p.pri, .int .u32 p.dead, .int .u32 p.dr, .int .u32 p.bdr, .slice p.NA p.nn p.nc, .int .u16 p.mtu, .int .u8 p.dopts, .int .u8 p.flags, .int .u32 p.seq, .slice p.DA p.dn p.dc, .slice p.KA p.kn p.kc, .slice p.SA p.sn p.sc, .slice p.HA p.hn p.hc]
set_option maxRecDepth 100000 in
set_option maxHeartbeats 8000000 in
theorem alone_any (w : World) (p : PA) (hp : p.ok) (h1 : 1 ≤ p.typ) (h5 : p.typ ≤ 5) : Calls Try.prog 30 #[p.v] w fun e w' => AlonePost w w' p e := by
  have HO := Lib.hid hp
  have HB : Hid (Below w.heap.size w (w.alloc (.cells #[.int .u8 p.typ, .int .u32 p.router, .int .u32 p.area, .int .u32 p.mask, .int .u16 p.ivl, .int .u8 p.hopts, .int .u8 p.pri, .int .u32 p.dead, .int .u32 p.dr, .int .u32 p.bdr, .slice p.NA p.nn p.nc, .int .u16 p.mtu, .int .u8 p.dopts, .int .u8 p.flags, .int .u32 p.seq, .slice p.DA p.dn p.dc, .slice p.KA p.kn p.kc, .slice p.SA p.sn p.sc, .slice p.HA p.hn p.hc] 33)).drew) := Lib.hid ((Below.refl _ _).alloc (Nat.le_refl _) _).drew
  have HS : Hid (AlS w.heap.size p (w.alloc (.cells #[.int .u8 p.typ, .int .u32 p.router, .int .u32 p.area, .int .u32 p.mask, .int .u16 p.ivl, .int .u8 p.hopts, .int .u8 p.pri, .int .u32 p.dead, .int .u32 p.dr, .int .u32 p.bdr, .slice p.NA p.nn p.nc, .int .u16 p.mtu, .int .u8 p.dopts, .int .u8 p.flags, .int .u32 p.seq, .slice p.DA p.dn p.dc, .slice p.KA p.kn p.kc, .slice p.SA p.sn p.sc, .slice p.HA p.hn p.hc] 33)).drew) := Lib.hid ((Blk.new w 33 _).drewN 1)
  clear hp
  show Calls Try.prog 30 #[.agg #[.int .u8 p.typ, .int .u32 p.router, .int .u32 p.area, .int .u32 p.mask, .int .u16 p.ivl, .int .u8 p.hopts, .int .u8 p.pri, .int .u32 p.dead, .int .u32 p.dr, .int .u32 p.bdr, .slice p.NA p.nn p.nc, .int .u16 p.mtu, .int .u8 p.dopts, .int .u8 p.flags, .int .u32 p.seq, .slice p.DA p.dn p.dc, .slice p.KA p.kn p.kc, .slice p.SA p.sn p.sc, .slice p.HA p.hn p.hc]] w _
  go_enter Try.func30, Try.ntmps30
  go_wp2_with fail
  generalize hgk : w.heap.size = gk at HS ⊢
  clear hgk
  rename_i K0 hKK
  have key : ∀ (gh gd : Nat) (v : World), Hid (AlS gk p v) → Hid (Blk v gh 26 #[.int .u32 p.mask, .int .u16 p.ivl, .int .u8 p.hopts, .int .u8 p.pri, .int .u32 p.dead, .int .u32 p.dr, .int .u32 p.bdr, .slice p.NA p.nn p.nc]) → Hid (Blk v gd 29 #[.int .u16 p.mtu, .int .u8 p.dopts, .int .u8 p.flags, .int .u32 p.seq, .slice p.DA p.dn p.dc]) → Hid (Below w.heap.size w v) → K0 { tmps := List.toArray (.agg #[.int .u8 p.typ, .int .u32 p.router, .int .u32 p.area, .int .u32 p.mask, .int .u16 p.ivl, .int .u8 p.hopts, .int .u8 p.pri, .int .u32 p.dead, .int .u32 p.dr, .int .u32 p.bdr, .slice p.NA p.nn p.nc, .int .u16 p.mtu, .int .u8 p.dopts, .int .u8 p.flags, .int .u32 p.seq, .slice p.DA p.dn p.dc, .slice p.KA p.kn p.kc, .slice p.SA p.sn p.sc, .slice p.HA p.hn p.hc] :: .pointer (some ⟨gk, 0, none⟩) :: .bool false :: .pointer (some ⟨gh, 0, none⟩) :: .pointer (some ⟨gd, 0, none⟩) :: undef :: undef :: undef :: .pointer (some ⟨gk, 3, none⟩) :: .agg #[.int .u32 p.mask, .int .u16 p.ivl, .int .u8 p.hopts, .int .u8 p.pri, .int .u32 p.dead, .int .u32 p.dr, .int .u32 p.bdr, .slice p.NA p.nn p.nc] :: .pointer (some ⟨gk, 11, none⟩) :: .agg #[.int .u16 p.mtu, .int .u8 p.dopts, .int .u8 p.flags, .int .u32 p.seq, .slice p.DA p.dn p.dc] :: undef :: undef :: undef :: undef :: undef :: undef :: undef :: undef :: undef :: undef :: undef :: undef :: undef :: undef :: undef :: undef :: undef :: undef :: undef :: undef :: undef :: undef :: undef :: undef :: undef :: undef :: undef :: undef :: undef :: undef :: undef :: undef :: undef :: undef :: undef :: undef :: undef :: undef :: undef :: undef :: undef :: undef :: undef :: undef :: undef :: undef :: undef :: undef :: undef :: undef :: undef :: undef :: undef :: undef :: undef :: undef :: undef :: undef :: undef :: undef :: undef :: undef :: undef :: undef :: undef :: undef :: undef :: undef :: undef :: undef :: undef :: undef :: undef :: undef :: undef :: undef :: undef :: undef :: undef :: undef :: undef :: undef :: undef :: undef :: undef :: undef :: undef :: undef :: undef :: undef :: []), defers := [] } v := by
    intro gh gd v HS HHh HHd HB
    refine hKK _ _ ?_
    clear hKK
    refine wp_seq_k fun K2 hK2 => ?_
    have HK2 := Lib.hid hK2
    clear hK2
    refine Code.wp_mono (Q := AlQ w p gk) ?_ ?_
    · rintro e a w5 ⟨rfl, gf, b1, b2, b3, b4, b5, h⟩
      obtain ⟨u3, u4, u8, u9, u10, u11, u12, u13, h⟩ := h
      obtain ⟨u14, u15, u16, u17, u18, u19, u20, u21, h⟩ := h
      obtain ⟨u22, u23, u24, u25, u26, u27, u28, u29, h⟩ := h
      obtain ⟨u30, u31, u32, u33, u34, u35, u36, u37, h⟩ := h
      obtain ⟨u38, u39, u40, u41, u42, u43, u44, u45, h⟩ := h
      obtain ⟨u46, u47, u48, u49, u50, u51, u52, u53, h⟩ := h
      obtain ⟨u54, u55, u56, u57, u58, u59, u60, u61, h⟩ := h
      obtain ⟨u62, u63, u64, u65, u66, u67, u68, u69, h⟩ := h
      obtain ⟨u70, u71, u72, u73, u74, u75, u76, u77, h⟩ := h
      obtain ⟨u78, u79, u80, u81, u82, u83, u84, u85, h⟩ := h
      obtain ⟨u86, u87, h⟩ := h
      obtain ⟨ha, hall⟩ := h
      subst ha
      refine HK2.out _ _ ?_
      clear HK2
      have hbk := hall.out.1
      have e0 := hbk.cell 0
      have e1 := hbk.cell 1
      have e2 := hbk.cell 2
      have e3 := hbk.cell 3
      have e4 := hbk.cell 4
      have e5 := hbk.cell 5
      simp at e0 e1 e2 e3 e4 e5
      have c0 := hall.out.2.2.2.2.2.2.1.cell 0
      simp at c0
      clear hbk
      go_wp2_with fail
      clear e0 e1 e2 e3 e4 e5
      go_loopw [89] (AlR b1 b2 b3 b4 b5 p w5) (fun iv _ => 6 - (intOf iv).toNat)
      case atStart => exact ⟨0, rfl, by omega, Lib.hid (AlI.zero _ _ _ _ _ _), 0, rfl⟩
      case round =>
        obtain ⟨i, rfl, hi, hI, d, rfl⟩ := hrel
        by_cases hlt : i < 6
        · have hc : i = 0 ∨ i = 1 ∨ i = 2 ∨ i = 3 ∨ i = 4 ∨ i = 5 := by omega
          clear hlt hi
          rcases hc with rfl | rfl | rfl | rfl | rfl | rfl
          · go_wp2_with (refine wpL_take (o := ⟨some 92, _, _, _, _, _⟩) (v := .bool false) (by rfl) (by kernel_rfl) ?_)
            go_roundw
            case rel => exact ⟨1, by go_num, by omega, Lib.hid (hI.out.next (.inl (by simp [abit]))), _, rfl⟩
            case measure => simp [intOf]
          · cases hbt : b1
            · subst hbt
              go_wp2_with (refine wpL_take (o := ⟨some 92, _, _, _, _, _⟩) (v := .bool false) (by rfl) (by kernel_rfl) ?_)
              go_roundw
              case rel => exact ⟨2, by go_num, by omega, Lib.hid (hI.out.next (.inl (by simp [abit]))), _, rfl⟩
              case measure => simp [intOf]
            · subst hbt
              by_cases ht : (1 : Int) = p.typ
              · have hq : ((1 : Int) != p.typ) = false := by simp [ht]
                have HT := Lib.hid ht
                clear ht
                go_wp2_with (refine wpL_take (o := ⟨some 92, _, _, _, _, _⟩) (v := .bool true) (by rfl) (by kernel_rfl) ?_)
                go_roundw
                case rel => exact ⟨2, by go_num, by omega, Lib.hid (hI.out.next (.inr HT.out)), _, rfl⟩
                case measure => simp [intOf]
              · have hq : ((1 : Int) != p.typ) = true := by simpa using ht
                have HT := Lib.hid ht
                clear ht
                go_wp2_with (refine wpL_take (o := ⟨some 92, _, _, _, _, _⟩) (v := .bool true) (by rfl) (by kernel_rfl) ?_)
                go_ret
                refine ⟨false, rfl, ⟨fun h => absurd h (by decide), fun h => ?_⟩, below_then hall.out.2.2.2.2.2.2.2 (below_of_drewN _ _ _)⟩
                have := h.1 (hall.out.2.1.1 (by trivial))
                have := HT.out
                omega
          · cases hbt : b2
            · subst hbt
              go_wp2_with (refine wpL_take (o := ⟨some 92, _, _, _, _, _⟩) (v := .bool false) (by rfl) (by kernel_rfl) ?_)
              go_roundw
              case rel => exact ⟨3, by go_num, by omega, Lib.hid (hI.out.next (.inl (by simp [abit]))), _, rfl⟩
              case measure => simp [intOf]
            · subst hbt
              by_cases ht : (2 : Int) = p.typ
              · have hq : ((2 : Int) != p.typ) = false := by simp [ht]
                have HT := Lib.hid ht
                clear ht
                go_wp2_with (refine wpL_take (o := ⟨some 92, _, _, _, _, _⟩) (v := .bool true) (by rfl) (by kernel_rfl) ?_)
                go_roundw
                case rel => exact ⟨3, by go_num, by omega, Lib.hid (hI.out.next (.inr HT.out)), _, rfl⟩
                case measure => simp [intOf]
              · have hq : ((2 : Int) != p.typ) = true := by simpa using ht
                have HT := Lib.hid ht
                clear ht
                go_wp2_with (refine wpL_take (o := ⟨some 92, _, _, _, _, _⟩) (v := .bool true) (by rfl) (by kernel_rfl) ?_)
                go_ret
                refine ⟨false, rfl, ⟨fun h => absurd h (by decide), fun h => ?_⟩, below_then hall.out.2.2.2.2.2.2.2 (below_of_drewN _ _ _)⟩
                have := h.2.1 (hall.out.2.2.1.1 (by trivial))
                have := HT.out
                omega
          · cases hbt : b3
            · subst hbt
              go_wp2_with (refine wpL_take (o := ⟨some 92, _, _, _, _, _⟩) (v := .bool false) (by rfl) (by kernel_rfl) ?_)
              go_roundw
              case rel => exact ⟨4, by go_num, by omega, Lib.hid (hI.out.next (.inl (by simp [abit]))), _, rfl⟩
              case measure => simp [intOf]
            · subst hbt
              by_cases ht : (3 : Int) = p.typ
              · have hq : ((3 : Int) != p.typ) = false := by simp [ht]
                have HT := Lib.hid ht
                clear ht
                go_wp2_with (refine wpL_take (o := ⟨some 92, _, _, _, _, _⟩) (v := .bool true) (by rfl) (by kernel_rfl) ?_)
                go_roundw
                case rel => exact ⟨4, by go_num, by omega, Lib.hid (hI.out.next (.inr HT.out)), _, rfl⟩
                case measure => simp [intOf]
              · have hq : ((3 : Int) != p.typ) = true := by simpa using ht
                have HT := Lib.hid ht
                clear ht
                go_wp2_with (refine wpL_take (o := ⟨some 92, _, _, _, _, _⟩) (v := .bool true) (by rfl) (by kernel_rfl) ?_)
                go_ret
                refine ⟨false, rfl, ⟨fun h => absurd h (by decide), fun h => ?_⟩, below_then hall.out.2.2.2.2.2.2.2 (below_of_drewN _ _ _)⟩
                have := h.2.2.1 (hall.out.2.2.2.1.1 (by trivial))
                have := HT.out
                omega
          · cases hbt : b4
            · subst hbt
              go_wp2_with (refine wpL_take (o := ⟨some 92, _, _, _, _, _⟩) (v := .bool false) (by rfl) (by kernel_rfl) ?_)
              go_roundw
              case rel => exact ⟨5, by go_num, by omega, Lib.hid (hI.out.next (.inl (by simp [abit]))), _, rfl⟩
              case measure => simp [intOf]
            · subst hbt
              by_cases ht : (4 : Int) = p.typ
              · have hq : ((4 : Int) != p.typ) = false := by simp [ht]
                have HT := Lib.hid ht
                clear ht
                go_wp2_with (refine wpL_take (o := ⟨some 92, _, _, _, _, _⟩) (v := .bool true) (by rfl) (by kernel_rfl) ?_)
                go_roundw
                case rel => exact ⟨5, by go_num, by omega, Lib.hid (hI.out.next (.inr HT.out)), _, rfl⟩
                case measure => simp [intOf]
              · have hq : ((4 : Int) != p.typ) = true := by simpa using ht
                have HT := Lib.hid ht
                clear ht
                go_wp2_with (refine wpL_take (o := ⟨some 92, _, _, _, _, _⟩) (v := .bool true) (by rfl) (by kernel_rfl) ?_)
                go_ret
                refine ⟨false, rfl, ⟨fun h => absurd h (by decide), fun h => ?_⟩, below_then hall.out.2.2.2.2.2.2.2 (below_of_drewN _ _ _)⟩
                have := h.2.2.2.1 (hall.out.2.2.2.2.1.1 (by trivial))
                have := HT.out
                omega
          · cases hbt : b5
            · subst hbt
              go_wp2_with (refine wpL_take (o := ⟨some 92, _, _, _, _, _⟩) (v := .bool false) (by rfl) (by kernel_rfl) ?_)
              go_roundw
              case rel => exact ⟨6, by go_num, by omega, Lib.hid (hI.out.next (.inl (by simp [abit]))), _, rfl⟩
              case measure => simp [intOf]
            · subst hbt
              by_cases ht : (5 : Int) = p.typ
              · have hq : ((5 : Int) != p.typ) = false := by simp [ht]
                have HT := Lib.hid ht
                clear ht
                go_wp2_with (refine wpL_take (o := ⟨some 92, _, _, _, _, _⟩) (v := .bool true) (by rfl) (by kernel_rfl) ?_)
                go_roundw
                case rel => exact ⟨6, by go_num, by omega, Lib.hid (hI.out.next (.inr HT.out)), _, rfl⟩
                case measure => simp [intOf]
              · have hq : ((5 : Int) != p.typ) = true := by simpa using ht
                have HT := Lib.hid ht
                clear ht
                go_wp2_with (refine wpL_take (o := ⟨some 92, _, _, _, _, _⟩) (v := .bool true) (by rfl) (by kernel_rfl) ?_)
                go_ret
                refine ⟨false, rfl, ⟨fun h => absurd h (by decide), fun h => ?_⟩, below_then hall.out.2.2.2.2.2.2.2 (below_of_drewN _ _ _)⟩
                have := h.2.2.2.2 (hall.out.2.2.2.2.2.1.1 (by trivial))
                have := HT.out
                omega
        · obtain rfl : i = 6 := by omega
          go_wp2_with fail
          go_ret
          exact ⟨true, rfl, ⟨fun _ => hI.out.all hall.out.2.1 hall.out.2.2.1 hall.out.2.2.2.1 hall.out.2.2.2.2.1 hall.out.2.2.2.2.2.1, fun _ => rfl⟩, below_then hall.out.2.2.2.2.2.2.2 (below_of_drewN _ _ _)⟩
    · clear HK2
      have hx := HHh.out
      have b0 := hx.cell 0
      have b1 := hx.cell 1
      have b2 := hx.cell 2
      have b3 := hx.cell 3
      have b4 := hx.cell 4
      have b5 := hx.cell 5
      have b6 := hx.cell 6
      have b7 := hx.cell 7
      simp at b0 b1 b2 b3 b4 b5 b6 b7
      have hy := HHd.out
      have d0 := hy.cell 0
      have d1 := hy.cell 1
      have d2 := hy.cell 2
      have d3 := hy.cell 3
      have d4 := hy.cell 4
      simp at d0 d1 d2 d3 d4
      have hz : Blk v gk 33 #[.int .u8 p.typ, .int .u32 p.router, .int .u32 p.area, .int .u32 p.mask, .int .u16 p.ivl, .int .u8 p.hopts, .int .u8 p.pri, .int .u32 p.dead, .int .u32 p.dr, .int .u32 p.bdr, .slice p.NA p.nn p.nc, .int .u16 p.mtu, .int .u8 p.dopts, .int .u8 p.flags, .int .u32 p.seq, .slice p.DA p.dn p.dc, .slice p.KA p.kn p.kc, .slice p.SA p.sn p.sc, .slice p.HA p.hn p.hc] := HS.out
      have c16 := hz.cell 16
      have c17 := hz.cell 17
      have c18 := hz.cell 18
      simp at c16 c17 c18
      have hz0 := hz
      clear hx hy hz
      obtain ⟨x0, hx0⟩ : ∃ b, (p.mask != 0) = b := ⟨_, rfl⟩
      obtain ⟨x1, hx1⟩ : ∃ b, (p.ivl != 0) = b := ⟨_, rfl⟩
      obtain ⟨x2, hx2⟩ : ∃ b, (p.hopts != 0) = b := ⟨_, rfl⟩
      obtain ⟨x3, hx3⟩ : ∃ b, (p.pri != 0) = b := ⟨_, rfl⟩
      obtain ⟨x4, hx4⟩ : ∃ b, (p.dead != 0) = b := ⟨_, rfl⟩
      obtain ⟨x5, hx5⟩ : ∃ b, (p.dr != 0) = b := ⟨_, rfl⟩
      obtain ⟨x6, hx6⟩ : ∃ b, (p.bdr != 0) = b := ⟨_, rfl⟩
      obtain ⟨x7, hx7⟩ : ∃ b, decide (0 < p.nn) = b := ⟨_, rfl⟩
      obtain ⟨y0, hy0⟩ : ∃ b, (p.mtu != 0) = b := ⟨_, rfl⟩
      obtain ⟨y1, hy1⟩ : ∃ b, (p.dopts != 0) = b := ⟨_, rfl⟩
      obtain ⟨y2, hy2⟩ : ∃ b, (p.flags != 0) = b := ⟨_, rfl⟩
      obtain ⟨y3, hy3⟩ : ∃ b, (p.seq != 0) = b := ⟨_, rfl⟩
      obtain ⟨y4, hy4⟩ : ∃ b, decide (0 < p.dn) = b := ⟨_, rfl⟩
      obtain ⟨g1, hg1⟩ : ∃ b, (x0 || x1) = b := ⟨_, rfl⟩
      obtain ⟨g2, hg2⟩ : ∃ b, (g1 || x2) = b := ⟨_, rfl⟩
      obtain ⟨g3, hg3⟩ : ∃ b, (g2 || x3) = b := ⟨_, rfl⟩
      obtain ⟨g4, hg4⟩ : ∃ b, (g3 || x4) = b := ⟨_, rfl⟩
      obtain ⟨g5, hg5⟩ : ∃ b, (g4 || x5) = b := ⟨_, rfl⟩
      obtain ⟨g6, hg6⟩ : ∃ b, (g5 || x6) = b := ⟨_, rfl⟩
      obtain ⟨g7, hg7⟩ : ∃ b, (g6 || x7) = b := ⟨_, rfl⟩
      obtain ⟨k1, hk1⟩ : ∃ b, (y0 || y1) = b := ⟨_, rfl⟩
      obtain ⟨k2, hk2⟩ : ∃ b, (k1 || y2) = b := ⟨_, rfl⟩
      obtain ⟨k3, hk3⟩ : ∃ b, (k2 || y3) = b := ⟨_, rfl⟩
      obtain ⟨k4, hk4⟩ : ∃ b, (k3 || y4) = b := ⟨_, rfl⟩
      have HG := Lib.hid (And.intro hg1 (And.intro hg2 (And.intro hg3 (And.intro hg4 (And.intro hg5 (And.intro hg6 hg7))))))
      have HKs := Lib.hid (And.intro hk1 (And.intro hk2 (And.intro hk3 hk4)))
      have HXs := Lib.hid (And.intro hx0 (And.intro hx1 (And.intro hx2 (And.intro hx3 (And.intro hx4 (And.intro hx5 (And.intro hx6 hx7)))))))
      have HYs := Lib.hid (And.intro hy0 (And.intro hy1 (And.intro hy2 (And.intro hy3 hy4))))
      clear hg1 hg2 hg3 hg4 hg5 hg6 hg7 hk1 hk2 hk3 hk4
      refine wp_region_list ?_
      refine wpL_take (by kernel_rfl) (by go_simp; try with_reducible rfl) ?_
      refine wpL_take (by kernel_rfl) (by go_simp; try with_reducible rfl) ?_
      refine wpL_take (by kernel_rfl) (by go_simp; try with_reducible rfl) ?_
      refine wpL_take (by kernel_rfl) (by go_simp; try with_reducible rfl) ?_
      refine wpL_grp 3 HG.out.1 rfl rfl rfl rfl (by kernel_rfl) (fun _ => by kernel_rfl) (fun _ _ => by kernel_rfl) (by go_simp; try with_reducible rfl) (by go_simp; try with_reducible rfl) (by go_simp; try with_reducible rfl) (fun u2 u3 u4 hb => ?_) (fun u2 u3 u4 => ?_)
      · rcases hb with rfl | ⟨rfl, rfl⟩ <;> (go_simp; try with_reducible rfl)
      go_simp
      refine wpL_take (by kernel_rfl) (by go_simp; try with_reducible rfl) ?_
      refine wpL_grp 8 HG.out.2.1 rfl rfl rfl rfl (by kernel_rfl) (fun _ => by kernel_rfl) (fun _ _ => by kernel_rfl) (by go_simp; try with_reducible rfl) (by go_simp; try with_reducible rfl) (by go_simp; try with_reducible rfl) (fun u2 u3 u4 hb => ?_) (fun u2 u3 u4 => ?_)
      · rcases hb with rfl | ⟨rfl, rfl⟩ <;> (go_simp; try with_reducible rfl)
      go_simp
      refine wpL_take (by kernel_rfl) (by go_simp; try with_reducible rfl) ?_
      refine wpL_grp 13 HG.out.2.2.1 rfl rfl rfl rfl (by kernel_rfl) (fun _ => by kernel_rfl) (fun _ _ => by kernel_rfl) (by go_simp; try with_reducible rfl) (by go_simp; try with_reducible rfl) (by go_simp; try with_reducible rfl) (fun u2 u3 u4 hb => ?_) (fun u2 u3 u4 => ?_)
      · rcases hb with rfl | ⟨rfl, rfl⟩ <;> (go_simp; try with_reducible rfl)
      go_simp
      refine wpL_take (by kernel_rfl) (by go_simp; try with_reducible rfl) ?_
      refine wpL_grp 18 HG.out.2.2.2.1 rfl rfl rfl rfl (by kernel_rfl) (fun _ => by kernel_rfl) (fun _ _ => by kernel_rfl) (by go_simp; try with_reducible rfl) (by go_simp; try with_reducible rfl) (by go_simp; try with_reducible rfl) (fun u2 u3 u4 hb => ?_) (fun u2 u3 u4 => ?_)
      · rcases hb with rfl | ⟨rfl, rfl⟩ <;> (go_simp; try with_reducible rfl)
      go_simp
      refine wpL_take (by kernel_rfl) (by go_simp; try with_reducible rfl) ?_
      refine wpL_grp 23 HG.out.2.2.2.2.1 rfl rfl rfl rfl (by kernel_rfl) (fun _ => by kernel_rfl) (fun _ _ => by kernel_rfl) (by go_simp; try with_reducible rfl) (by go_simp; try with_reducible rfl) (by go_simp; try with_reducible rfl) (fun u2 u3 u4 hb => ?_) (fun u2 u3 u4 => ?_)
      · rcases hb with rfl | ⟨rfl, rfl⟩ <;> (go_simp; try with_reducible rfl)
      go_simp
      refine wpL_take (by kernel_rfl) (by go_simp; try with_reducible rfl) ?_
      refine wpL_grp 28 HG.out.2.2.2.2.2.1 rfl rfl rfl rfl (by kernel_rfl) (fun _ => by kernel_rfl) (fun _ _ => by kernel_rfl) (by go_simp; try with_reducible rfl) (by go_simp; try with_reducible rfl) (by go_simp; try with_reducible rfl) (fun u2 u3 u4 hb => ?_) (fun u2 u3 u4 => ?_)
      · rcases hb with rfl | ⟨rfl, rfl⟩ <;> (go_simp; try with_reducible rfl)
      go_simp
      refine wpL_take (by kernel_rfl) (by go_simp; try with_reducible rfl) ?_
      refine wpL_grp5 33 HG.out.2.2.2.2.2.2 rfl rfl rfl rfl rfl (by kernel_rfl) (fun _ => by kernel_rfl) (fun _ _ => by kernel_rfl) (fun _ _ _ => by kernel_rfl) (by go_simp; try with_reducible rfl) (by go_simp; try with_reducible rfl) (by go_simp; try with_reducible rfl) (by go_simp; try with_reducible rfl) (fun u2 u3 u6 u4 hb => ?_) (fun u2 u3 u6 u4 => ?_)
      · rcases hb with rfl | ⟨rfl, rfl⟩ <;> (go_simp; try with_reducible rfl)
      go_simp
      refine wpL_take (by kernel_rfl) (by go_simp; try with_reducible rfl) ?_
      refine wpL_take (by kernel_rfl) (by go_simp; try with_reducible rfl) ?_
      refine wpL_take (by kernel_rfl) (by go_simp; try with_reducible rfl) ?_
      refine wpL_take (by kernel_rfl) (by go_simp; try with_reducible rfl) ?_
      refine wpL_grp 42 HKs.out.1 rfl rfl rfl rfl (by kernel_rfl) (fun _ => by kernel_rfl) (fun _ _ => by kernel_rfl) (by go_simp; try with_reducible rfl) (by go_simp; try with_reducible rfl) (by go_simp; try with_reducible rfl) (fun u2 u3 u4 hb => ?_) (fun u2 u3 u4 => ?_)
      · rcases hb with rfl | ⟨rfl, rfl⟩ <;> (go_simp; try with_reducible rfl)
      go_simp
      refine wpL_take (by kernel_rfl) (by go_simp; try with_reducible rfl) ?_
      refine wpL_grp 47 HKs.out.2.1 rfl rfl rfl rfl (by kernel_rfl) (fun _ => by kernel_rfl) (fun _ _ => by kernel_rfl) (by go_simp; try with_reducible rfl) (by go_simp; try with_reducible rfl) (by go_simp; try with_reducible rfl) (fun u2 u3 u4 hb => ?_) (fun u2 u3 u4 => ?_)
      · rcases hb with rfl | ⟨rfl, rfl⟩ <;> (go_simp; try with_reducible rfl)
      go_simp
      refine wpL_take (by kernel_rfl) (by go_simp; try with_reducible rfl) ?_
      refine wpL_grp 52 HKs.out.2.2.1 rfl rfl rfl rfl (by kernel_rfl) (fun _ => by kernel_rfl) (fun _ _ => by kernel_rfl) (by go_simp; try with_reducible rfl) (by go_simp; try with_reducible rfl) (by go_simp; try with_reducible rfl) (fun u2 u3 u4 hb => ?_) (fun u2 u3 u4 => ?_)
      · rcases hb with rfl | ⟨rfl, rfl⟩ <;> (go_simp; try with_reducible rfl)
      go_simp
      refine wpL_take (by kernel_rfl) (by go_simp; try with_reducible rfl) ?_
      refine wpL_grp5 57 HKs.out.2.2.2 rfl rfl rfl rfl rfl (by kernel_rfl) (fun _ => by kernel_rfl) (fun _ _ => by kernel_rfl) (fun _ _ _ => by kernel_rfl) (by go_simp; try with_reducible rfl) (by go_simp; try with_reducible rfl) (by go_simp; try with_reducible rfl) (by go_simp; try with_reducible rfl) (fun u2 u3 u6 u4 hb => ?_) (fun u2 u3 u6 u4 => ?_)
      · rcases hb with rfl | ⟨rfl, rfl⟩ <;> (go_simp; try with_reducible rfl)
      go_simp
      refine wpL_take (by kernel_rfl) (by go_simp; try with_reducible rfl) ?_
      refine wpL_take (by kernel_rfl) (by go_simp; try with_reducible rfl) ?_
      refine wpL_take (by kernel_rfl) (by go_simp; try with_reducible rfl) ?_
      refine wpL_take (by kernel_rfl) (by go_simp; try with_reducible rfl) ?_
      refine wpL_take (by kernel_rfl) (by go_simp; try with_reducible rfl) ?_
      refine wpL_take (by kernel_rfl) (by go_simp; try with_reducible rfl) ?_
      refine wpL_take (by kernel_rfl) (by go_simp; try with_reducible rfl) ?_
      refine wpL_take (by kernel_rfl) (by go_simp; try with_reducible rfl) ?_
      refine wpL_take (by kernel_rfl) (by go_simp; try with_reducible rfl) ?_
      refine wpL_take (by kernel_rfl) (by go_simp; try with_reducible rfl) ?_
      refine wpL_take (by kernel_rfl) (by go_simp; try with_reducible rfl) ?_
      refine wpL_take (by kernel_rfl) (by go_simp; try with_reducible rfl) ?_
      refine wpL_take (by kernel_rfl) (by go_simp; try with_reducible rfl) ?_
      go_wp2_with fail
      refine ⟨rfl, v.heap.size, g7, k4, decide (0 < p.kn), decide (0 < p.sn), decide (0 < p.hn), ?_⟩
      refine ⟨_, _, _, _, _, _, _, _, _, _, _, _, _, _, _, _, _, _, _, _, _, _, _, _, _, _, _, _, _, _, _, _, _, _, _, _, _, _, _, _, _, _, _, _, _, _, _, _, _, _, _, _, _, _, _, _, _, _, _, _, _, _, _, _, _, _, _, _, _, _, _, _, _, _, _, _, _, _, _, _, _, _, rfl, Lib.hid ⟨Blk.new v 122 _, ?_, ?_, decide_eq_true_iff, decide_eq_true_iff, decide_eq_true_iff, hz0.later ?_, HB.out.alloc HB.out.size _⟩⟩
      · have hg := HG.out; have hxs := HXs.out
        clear HG HXs HKs HYs
        obtain ⟨e1, e2, e3, e4, e5, e6, e7⟩ := hg
        obtain ⟨f0, f1, f2, f3, f4, f5, f6, f7⟩ := hxs
        rw [← e7, ← e6, ← e5, ← e4, ← e3, ← e2, ← e1, ← f0, ← f1, ← f2, ← f3, ← f4, ← f5, ← f6, ← f7]
        exact hello_iff p
      · have hg := HKs.out; have hxs := HYs.out
        clear HG HXs HKs HYs
        obtain ⟨e1, e2, e3, e4⟩ := hg
        obtain ⟨f0, f1, f2, f3, f4⟩ := hxs
        rw [← e4, ← e3, ← e2, ← e1, ← f0, ← f1, ← f2, ← f3, ← f4]
        exact dd_iff p
      · exact (Below.refl _ _).alloc (Nat.le_refl _) _
    
  refine wp_region_t (AlS gk p) (.take 0 (.take 2 (.take 1 (.take 3 (.fork 4 5 (.one 5 (.one 6 (.one 7 .nil))) (.one 4 (.one 6 (.one 7 .nil)))))))) (by kernel_rfl) (fun _ d _ _ _ h => by cases d <;> exact h) ?_
  simp only [TStep.node, nthOp_zero, nthOp_succ]
  generalize (w.alloc (.cells #[.int .u8 p.typ, .int .u32 p.router, .int .u32 p.area, .int .u32 p.mask, .int .u16 p.ivl, .int .u8 p.hopts, .int .u8 p.pri, .int .u32 p.dead, .int .u32 p.dr, .int .u32 p.bdr, .slice p.NA p.nn p.nc, .int .u16 p.mtu, .int .u8 p.dopts, .int .u8 p.flags, .int .u32 p.seq, .slice p.DA p.dn p.dc, .slice p.KA p.kn p.kc, .slice p.SA p.sn p.sc, .slice p.HA p.hn p.hc] 33)).drew = v0 at *
  refine wpT_take HS (by rfl) (by intro W hW; clear hW; go_simp; try with_reducible rfl) ?_
  refine wpT_take HS (by rfl) (by intro W hW; clear hW; go_simp; try with_reducible rfl) ?_
  refine wpT_take HS (by rfl) (by intro W hW; unfold AlS at hW; have b3 := hW.cell 3; have b4 := hW.cell 4; have b5 := hW.cell 5; have b6 := hW.cell 6; have b7 := hW.cell 7; have b8 := hW.cell 8; have b9 := hW.cell 9; have b10 := hW.cell 10; have b11 := hW.cell 11; have b12 := hW.cell 12; have b13 := hW.cell 13; have b14 := hW.cell 14; have b15 := hW.cell 15; clear hW; simp at b3 b4 b5 b6 b7 b8 b9 b10 b11 b12 b13 b14 b15; go_simp; try with_reducible rfl) ?_
  refine wpT_take HS (by rfl) (by intro W hW; unfold AlS at hW; have b3 := hW.cell 3; have b4 := hW.cell 4; have b5 := hW.cell 5; have b6 := hW.cell 6; have b7 := hW.cell 7; have b8 := hW.cell 8; have b9 := hW.cell 9; have b10 := hW.cell 10; have b11 := hW.cell 11; have b12 := hW.cell 12; have b13 := hW.cell 13; have b14 := hW.cell 14; have b15 := hW.cell 15; clear hW; simp at b3 b4 b5 b6 b7 b8 b9 b10 b11 b12 b13 b14 b15; go_simp; try with_reducible rfl) ?_
  go_simp
  refine wpT_fork (fun K hK => ?_) (fun K hK => ?_)
  · go_wp2_with fail
    have hb2 : Below v0.heap.size v0 (v0.alloc (.cells #[.int .u32 0, .int .u16 0, .int .u8 0, .int .u8 0, .int .u32 0, .int .u32 0, .int .u32 0, .slice none 0 0] 26)) := (Below.refl _ _).alloc (Nat.le_refl _) _
    have HGh : Hid (w.heap.size ≤ v0.heap.size) := Lib.hid HB.out.size
    have HHh := Lib.hid (Blk.new v0 26 #[.int .u32 0, .int .u16 0, .int .u8 0, .int .u8 0, .int .u32 0, .int .u32 0, .int .u32 0, .slice none 0 0])
    replace HB := Lib.hid (below_then HB.out hb2)
    replace HS : Hid (AlS gk p (v0.alloc (.cells #[.int .u32 0, .int .u16 0, .int .u8 0, .int .u8 0, .int .u32 0, .int .u32 0, .int .u32 0, .slice none 0 0] 26))) := Lib.hid (Blk.later HS.out hb2)
    clear hb2
    generalize v0.heap.size = gh at *
    generalize v0.alloc (.cells #[.int .u32 0, .int .u16 0, .int .u8 0, .int .u8 0, .int .u32 0, .int .u32 0, .int .u32 0, .slice none 0 0] 26) = v1 at *
    refine hK.out _ _ HS.out ?_
    clear hK K
    go_simp
    refine wpT_do fun K hK => ?_
    go_wp2_with fail
    have hb2 : Below v1.heap.size v1 (v1.alloc (.cells #[.int .u16 0, .int .u8 0, .int .u8 0, .int .u32 0, .slice none 0 0] 29)) := (Below.refl _ _).alloc (Nat.le_refl _) _
    have HGd : Hid (w.heap.size ≤ v1.heap.size) := Lib.hid HB.out.size
    have HHd := Lib.hid (Blk.new v1 29 #[.int .u16 0, .int .u8 0, .int .u8 0, .int .u32 0, .slice none 0 0])
    replace HB := Lib.hid (below_then HB.out hb2)
    replace HS : Hid (AlS gk p (v1.alloc (.cells #[.int .u16 0, .int .u8 0, .int .u8 0, .int .u32 0, .slice none 0 0] 29))) := Lib.hid (Blk.later HS.out hb2)
    replace HHh := Lib.hid (HHh.out.later hb2)
    clear hb2
    generalize v1.heap.size = gd at *
    generalize v1.alloc (.cells #[.int .u16 0, .int .u8 0, .int .u8 0, .int .u32 0, .slice none 0 0] 29) = v2 at *
    refine hK.out _ _ HS.out ?_
    clear hK K
    go_simp
    refine wpT_do fun K hK => ?_
    go_wp2_with (refine wpList_store_row rfl 26 _ _ rfl gh #[.int .u32 p.mask, .int .u16 p.ivl, .int .u8 p.hopts, .int .u8 p.pri, .int .u32 p.dead, .int .u32 p.dr, .int .u32 p.bdr, .slice p.NA p.nn p.nc] rfl rfl 26 _ HHh.out info_hello rfl (by simp [Value.oneCell']) ?_)
    replace HB := Lib.hid (below_setRow HB.out HGh.out #[.int .u32 p.mask, .int .u16 p.ivl, .int .u8 p.hopts, .int .u8 p.pri, .int .u32 p.dead, .int .u32 p.dr, .int .u32 p.bdr, .slice p.NA p.nn p.nc])
    replace HS : Hid (AlS gk p (v2.setRow gh #[.int .u32 p.mask, .int .u16 p.ivl, .int .u8 p.hopts, .int .u8 p.pri, .int .u32 p.dead, .int .u32 p.dr, .int .u32 p.bdr, .slice p.NA p.nn p.nc])) := Lib.hid (Blk.setRow_far HS.out (blk_ne HS.out HHh.out (by decide)) _)
    replace HHd := Lib.hid (HHd.out.setRow_far (blk_ne HHd.out HHh.out (by decide)) #[.int .u32 p.mask, .int .u16 p.ivl, .int .u8 p.hopts, .int .u8 p.pri, .int .u32 p.dead, .int .u32 p.dr, .int .u32 p.bdr, .slice p.NA p.nn p.nc])
    replace HHh := Lib.hid (HHh.out.setRow #[.int .u32 p.mask, .int .u16 p.ivl, .int .u8 p.hopts, .int .u8 p.pri, .int .u32 p.dead, .int .u32 p.dr, .int .u32 p.bdr, .slice p.NA p.nn p.nc])
    generalize v2.setRow gh #[.int .u32 p.mask, .int .u16 p.ivl, .int .u8 p.hopts, .int .u8 p.pri, .int .u32 p.dead, .int .u32 p.dr, .int .u32 p.bdr, .slice p.NA p.nn p.nc] = v3 at *
    refine hK.out _ _ HS.out ?_
    clear hK K
    go_simp
    refine wpT_do fun K hK => ?_
    go_wp2_with (refine wpList_store_row rfl 29 _ _ rfl gd #[.int .u16 p.mtu, .int .u8 p.dopts, .int .u8 p.flags, .int .u32 p.seq, .slice p.DA p.dn p.dc] rfl rfl 29 _ HHd.out info_dd rfl (by simp [Value.oneCell']) ?_)
    replace HB := Lib.hid (below_setRow HB.out HGd.out #[.int .u16 p.mtu, .int .u8 p.dopts, .int .u8 p.flags, .int .u32 p.seq, .slice p.DA p.dn p.dc])
    replace HS : Hid (AlS gk p (v3.setRow gd #[.int .u16 p.mtu, .int .u8 p.dopts, .int .u8 p.flags, .int .u32 p.seq, .slice p.DA p.dn p.dc])) := Lib.hid (Blk.setRow_far HS.out (blk_ne HS.out HHd.out (by decide)) _)
    replace HHh := Lib.hid (HHh.out.setRow_far (blk_ne HHh.out HHd.out (by decide)) #[.int .u16 p.mtu, .int .u8 p.dopts, .int .u8 p.flags, .int .u32 p.seq, .slice p.DA p.dn p.dc])
    replace HHd := Lib.hid (HHd.out.setRow #[.int .u16 p.mtu, .int .u8 p.dopts, .int .u8 p.flags, .int .u32 p.seq, .slice p.DA p.dn p.dc])
    generalize v3.setRow gd #[.int .u16 p.mtu, .int .u8 p.dopts, .int .u8 p.flags, .int .u32 p.seq, .slice p.DA p.dn p.dc] = v4 at *
    refine hK.out _ _ HS.out ?_
    clear hK K
    refine wpT_nil ?_
    go_simp
    exact key _ _ _ HS HHh HHd HB
  · go_wp2_with fail
    have hb2 : Below v0.heap.size v0 (v0.alloc (.cells #[.int .u16 0, .int .u8 0, .int .u8 0, .int .u32 0, .slice none 0 0] 29)) := (Below.refl _ _).alloc (Nat.le_refl _) _
    have HGd : Hid (w.heap.size ≤ v0.heap.size) := Lib.hid HB.out.size
    have HHd := Lib.hid (Blk.new v0 29 #[.int .u16 0, .int .u8 0, .int .u8 0, .int .u32 0, .slice none 0 0])
    replace HB := Lib.hid (below_then HB.out hb2)
    replace HS : Hid (AlS gk p (v0.alloc (.cells #[.int .u16 0, .int .u8 0, .int .u8 0, .int .u32 0, .slice none 0 0] 29))) := Lib.hid (Blk.later HS.out hb2)
    clear hb2
    generalize v0.heap.size = gd at *
    generalize v0.alloc (.cells #[.int .u16 0, .int .u8 0, .int .u8 0, .int .u32 0, .slice none 0 0] 29) = v5 at *
    refine hK.out _ _ HS.out ?_
    clear hK K
    go_simp
    refine wpT_do fun K hK => ?_
    go_wp2_with fail
    have hb2 : Below v5.heap.size v5 (v5.alloc (.cells #[.int .u32 0, .int .u16 0, .int .u8 0, .int .u8 0, .int .u32 0, .int .u32 0, .int .u32 0, .slice none 0 0] 26)) := (Below.refl _ _).alloc (Nat.le_refl _) _
    have HGh : Hid (w.heap.size ≤ v5.heap.size) := Lib.hid HB.out.size
    have HHh := Lib.hid (Blk.new v5 26 #[.int .u32 0, .int .u16 0, .int .u8 0, .int .u8 0, .int .u32 0, .int .u32 0, .int .u32 0, .slice none 0 0])
    replace HB := Lib.hid (below_then HB.out hb2)
    replace HS : Hid (AlS gk p (v5.alloc (.cells #[.int .u32 0, .int .u16 0, .int .u8 0, .int .u8 0, .int .u32 0, .int .u32 0, .int .u32 0, .slice none 0 0] 26))) := Lib.hid (Blk.later HS.out hb2)
    replace HHd := Lib.hid (HHd.out.later hb2)
    clear hb2
    generalize v5.heap.size = gh at *
    generalize v5.alloc (.cells #[.int .u32 0, .int .u16 0, .int .u8 0, .int .u8 0, .int .u32 0, .int .u32 0, .int .u32 0, .slice none 0 0] 26) = v6 at *
    refine hK.out _ _ HS.out ?_
    clear hK K
    go_simp
    refine wpT_do fun K hK => ?_
    go_wp2_with (refine wpList_store_row rfl 26 _ _ rfl gh #[.int .u32 p.mask, .int .u16 p.ivl, .int .u8 p.hopts, .int .u8 p.pri, .int .u32 p.dead, .int .u32 p.dr, .int .u32 p.bdr, .slice p.NA p.nn p.nc] rfl rfl 26 _ HHh.out info_hello rfl (by simp [Value.oneCell']) ?_)
    replace HB := Lib.hid (below_setRow HB.out HGh.out #[.int .u32 p.mask, .int .u16 p.ivl, .int .u8 p.hopts, .int .u8 p.pri, .int .u32 p.dead, .int .u32 p.dr, .int .u32 p.bdr, .slice p.NA p.nn p.nc])
    replace HS : Hid (AlS gk p (v6.setRow gh #[.int .u32 p.mask, .int .u16 p.ivl, .int .u8 p.hopts, .int .u8 p.pri, .int .u32 p.dead, .int .u32 p.dr, .int .u32 p.bdr, .slice p.NA p.nn p.nc])) := Lib.hid (Blk.setRow_far HS.out (blk_ne HS.out HHh.out (by decide)) _)
    replace HHd := Lib.hid (HHd.out.setRow_far (blk_ne HHd.out HHh.out (by decide)) #[.int .u32 p.mask, .int .u16 p.ivl, .int .u8 p.hopts, .int .u8 p.pri, .int .u32 p.dead, .int .u32 p.dr, .int .u32 p.bdr, .slice p.NA p.nn p.nc])
    replace HHh := Lib.hid (HHh.out.setRow #[.int .u32 p.mask, .int .u16 p.ivl, .int .u8 p.hopts, .int .u8 p.pri, .int .u32 p.dead, .int .u32 p.dr, .int .u32 p.bdr, .slice p.NA p.nn p.nc])
    generalize v6.setRow gh #[.int .u32 p.mask, .int .u16 p.ivl, .int .u8 p.hopts, .int .u8 p.pri, .int .u32 p.dead, .int .u32 p.dr, .int .u32 p.bdr, .slice p.NA p.nn p.nc] = v7 at *
    refine hK.out _ _ HS.out ?_
    clear hK K
    go_simp
    refine wpT_do fun K hK => ?_
    go_wp2_with (refine wpList_store_row rfl 29 _ _ rfl gd #[.int .u16 p.mtu, .int .u8 p.dopts, .int .u8 p.flags, .int .u32 p.seq, .slice p.DA p.dn p.dc] rfl rfl 29 _ HHd.out info_dd rfl (by simp [Value.oneCell']) ?_)
    replace HB := Lib.hid (below_setRow HB.out HGd.out #[.int .u16 p.mtu, .int .u8 p.dopts, .int .u8 p.flags, .int .u32 p.seq, .slice p.DA p.dn p.dc])
    replace HS : Hid (AlS gk p (v7.setRow gd #[.int .u16 p.mtu, .int .u8 p.dopts, .int .u8 p.flags, .int .u32 p.seq, .slice p.DA p.dn p.dc])) := Lib.hid (Blk.setRow_far HS.out (blk_ne HS.out HHd.out (by decide)) _)
    replace HHh := Lib.hid (HHh.out.setRow_far (blk_ne HHh.out HHd.out (by decide)) #[.int .u16 p.mtu, .int .u8 p.dopts, .int .u8 p.flags, .int .u32 p.seq, .slice p.DA p.dn p.dc])
    replace HHd := Lib.hid (HHd.out.setRow #[.int .u16 p.mtu, .int .u8 p.dopts, .int .u8 p.flags, .int .u32 p.seq, .slice p.DA p.dn p.dc])
    generalize v7.setRow gd #[.int .u16 p.mtu, .int .u8 p.dopts, .int .u8 p.flags, .int .u32 p.seq, .slice p.DA p.dn p.dc] = v8 at *
    refine hK.out _ _ HS.out ?_
    clear hK K
    refine wpT_nil ?_
    go_simp
    exact key _ _ _ HS HHh HHd HB
end Go.Proofs.Ytbkejlalbjomkaa
