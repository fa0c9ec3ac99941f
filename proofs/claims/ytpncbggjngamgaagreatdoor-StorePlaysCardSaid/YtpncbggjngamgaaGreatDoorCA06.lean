/-
  Next: when something more is old. Printed by gen_sto8.py.
  Get; Put of a store that is full; what no store answers. Printed by gen_sto9.py.
  The reference's store: copied, at. Printed by gen_rst1.py.
  The reference's store: a state at a time. Printed by gen_rst2.py.
-/
import Derived.Test.YtpncbggjngamgaaGreatDoorCA05
import Derived.Test.YtpncbggjngamgaaGreatDoorCA04
namespace Go.Proofs.YtpncbggjngamgaaGreatDoor
set_option linter.unusedVariables false
open Go.RowKit Go.Shelf
attribute [local go_sem] Oper.semAt_some

/-- What a round of Next makes of the best so far (the sum may pass the widest int). -/
def stepW (now : Int) (b : Option Int) (p : Ent11) : Option Int := if candE now p && decide (p.2.end_ ≤ 9223372036854775807) then (match b with
    | none => some p.2.end_
    | some t => if p.2.end_ < t then some p.2.end_ else some t) else b
def entK (f : Ky3 → Option OneE) (k : Ky3) : Ent11 := (k, (f k).getD zOne)
def nextK (f : Ky3 → Option OneE) (now : Int) (ks : List Ky3) : Option Int := (ks.map (entK f)).foldl (stepW now) none
@[reducible] def nxB (b : Option Int) : Int := b.getD 0
/-- A store of one word into a box of the loop's. -/
theorem kp_set {n₀ b : Nat} {G : Nat → Prop} {T : TypeId} {u v : Value} {W : World} (hB : Blk W b T #[u]) (hG : G b) (hn : n₀ ≤ b) (hv : ∀ p n c, v ≠ .slice (some p) n c) : KpG n₀ G W (W.setCell ⟨b, 0, none⟩ v) := by
  have hg := grownBy_setCell' W b v
  have hl : b < W.heap.size := (Array.getElem?_eq_some_iff.1 hB).1
  have hpt : ∀ gb blk, Pts (W.setCell ⟨b, 0, none⟩ v) gb blk → gb < W.heap.size → Pts W gb blk := by
    intro gb blk hp hgb
    by_cases he : gb = b
    · subst he
      obtain ⟨o, n, c, hp⟩ := hp
      have h5 : (W.setCell ⟨gb, 0, none⟩ v).cell? ⟨gb, 0, none⟩ = some v := (hB.set_ 0 v).cell 0
      rw [h5] at hp
      injection hp with hp
      exact absurd hp (hv _ _ _)
    · exact hp.turn hg (fun e => he (by cases e; rfl)) hgb
  have hsz : (W.setCell ⟨b, 0, none⟩ v).heap.size = W.heap.size := by
    rcases Nat.lt_or_ge W.heap.size (W.setCell ⟨b, 0, none⟩ v).heap.size with h | h
    · have h1 : (W.setCell ⟨b, 0, none⟩ v).heap.size = W.heap.size := by simp [World.setCell]
      omega
    · have := hg.size; omega
  have hgl : ∀ gb blk, Pts (W.setCell ⟨b, 0, none⟩ v) gb blk → gb < W.heap.size := by
    rintro gb blk ⟨o, n, c, hp⟩
    have := cell_lt hp
    rw [hsz] at this
    exact this
  refine ⟨(Below.refl n₀ W).setCell (p := ⟨b, 0, none⟩) hn v, fun i cs t fz hi hgi _ => ?_, fun gb blk hgb hp => .inl (hpt gb blk hp (hgl gb blk hp)), fun hlim gb blk hgb hp => ?_⟩
  · exact (hg.block i (Array.getElem?_eq_some_iff.1 hi).1 (fun e => hgi (by cases e; exact hG))).trans hi
  · have := hlim gb blk hgb (hpt gb blk hp (hgl gb blk hp))
    rw [hsz]; exact this
/-- The boxes of Next. -/
structure Nx (gb : Nat) (w2 : World) (sp : Option Addr) (b : Option Int) (W : World) : Prop where
  s : Blk W gb 25 #[.pointer sp]
  best : Blk W (gb + 1) 3 #[.int .i64 (nxB b)]
  found : Blk W (gb + 1 + 1) 4 #[.bool b.isSome]
  kp : KpG gb (fun i => i = gb + 1 ∨ i = gb + 1 + 1) w2 W
theorem nx_lim {gb : Nat} {w2 W : World} {sp : Option Addr} {b : Option Int} (h : Nx gb w2 sp b W) : ∀ i, (i = gb + 1 ∨ i = gb + 1 + 1) → i < W.heap.size := by
  rintro i (rfl | rfl)
  · exact (Array.getElem?_eq_some_iff.1 h.best).1
  · exact (Array.getElem?_eq_some_iff.1 h.found).1
theorem kp_turn {n₀ B : Nat} {G : Nat → Prop} {W W' : World} {row : Option Nat} (hg : W.grownBy W' row) (hr : ∀ r, row = some r → B ≤ r ∧ ∃ o : Obj, W.heap[r]? = some o ∧ o.isCells = false) (hn : n₀ ≤ B) (hw : n₀ ≤ W.heap.size) (hG : ∀ i, G i → i < B ∧ i < W.heap.size) : KpG n₀ G W W' := by
  refine ⟨(Below.refl n₀ W).grown hg hw (fun r e => by have := (hr r e).1; omega), fun i cs t fz hi _ _ => ?_, fun b blk hb hp => ?_, fun hlim b blk hb hp => ?_⟩
  · refine (hg.block i (Array.getElem?_eq_some_iff.1 hi).1 (fun e => ?_)).trans hi
    obtain ⟨_, o, ho, hc⟩ := hr i e.symm
    rw [hi] at ho; cases ho; cases hc
  · exact .inl (hp.turn hg (fun e => by have := (hr b e.symm).1; have := (hG b hb).1; omega) (hG b hb).2)
  · have := hlim b blk hb (hp.turn hg (fun e => by have := (hr b e.symm).1; have := (hG b hb).1; omega) (hG b hb).2)
    exact Nat.lt_of_lt_of_le this hg.size
theorem Nx.own {gb B : Nat} {w2 : World} {sp : Option Addr} {β : Type} {b : β → Option Int} (hB : gb + 1 + 1 < B) : OwnFrom B (fun (s : β) W => Nx gb w2 sp (b s) W) := by
  intro s W W' row h hg hr
  refine ⟨blk_ownF (β := Unit) () W W' row h.s hg hr, blk_ownF (β := Unit) () W W' row h.best hg hr, blk_ownF (β := Unit) () W W' row h.found hg hr, h.kp.t (kp_turn hg hr (by omega) ?_ fun i hi => ⟨?_, nx_lim h i hi⟩)⟩
  · have := nx_lim h _ (.inl rfl); omega
  · rcases hi with rfl | rfl <;> omega
theorem Nx.later {gb : Nat} {w2 W W' : World} {sp : Option Addr} {b : Option Int} (h : Nx gb w2 sp b W) (hb : Below W.heap.size W W') (hn : gb ≤ W.heap.size) : Nx gb w2 sp b W' :=
  ⟨h.s.later hb, h.best.later hb, h.found.later hb, h.kp.t (KpG.new hb hn (nx_lim h))⟩
theorem nx_store {gb g1 g2 : Nat} {w2 W : World} {sp : Option Addr} {b : Option Int} (t : Int) (h : Nx gb w2 sp b W) (h1 : g1 = gb + 1) (h2 : g2 = gb + 1 + 1) (hn : gb ≤ W.heap.size) : Nx gb w2 sp (some t) ((W.setCell ⟨g1, 0, none⟩ (.int .i64 t)).setCell ⟨g2, 0, none⟩ (.bool true)) ∧
    KpG gb (fun i => i = gb + 1 ∨ i = gb + 1 + 1) W ((W.setCell ⟨g1, 0, none⟩ (.int .i64 t)).setCell ⟨g2, 0, none⟩ (.bool true)) := by
  subst h1 h2
  have f1 : Blk (W.setCell ⟨gb + 1, 0, none⟩ (.int .i64 t)) (gb + 1 + 1) 4 #[.bool b.isSome] := h.found.far (p := ⟨gb + 1, 0, none⟩) (by simp) _
  have k1 := kp_set (n₀ := gb) (G := fun i => i = gb + 1 ∨ i = gb + 1 + 1) (v := .int .i64 t) h.best (.inl rfl) (by omega) (fun _ _ _ e => by cases e)
  have k2 := kp_set (n₀ := gb) (G := fun i => i = gb + 1 ∨ i = gb + 1 + 1) (v := .bool true) f1 (.inr rfl) (by omega) (fun _ _ _ e => by cases e)
  refine ⟨⟨(h.s.far (p := ⟨gb + 1, 0, none⟩) (by simp) _).far (p := ⟨gb + 1 + 1, 0, none⟩) (show gb ≠ gb + 1 + 1 by omega) _, ?_, ?_, h.kp.t (k1.t k2)⟩, k1.t k2⟩
  · exact (h.best.set_ 0 (.int .i64 t)).far (p := ⟨gb + 1 + 1, 0, none⟩) (by simp) _
  · exact f1.set_ 0 (.bool true)
/-- What the sum in Next comes to. -/
theorem end_wrap (a y : Int) (ha : 0 ≤ a ∧ a ≤ 65535) (hy : 0 ≤ y ∧ y ≤ 9223372036854775807) (hs : a < 3600) :
    (y + 3600 - a ≤ 9223372036854775807 ∧ IntKind.i64.wrap (IntKind.i64.wrap (y + 3600) - a) = y + 3600 - a ∧ 0 ≤ y + 3600 - a) ∨ (9223372036854775807 < y + 3600 - a ∧ IntKind.i64.wrap (IntKind.i64.wrap (y + 3600) - a) < 0) := by
  simp only [IntKind.wrap_i64]
  omega
theorem young {x : OneE} {now : Int} (h : 0 ≤ x.s.h.age ∧ x.s.h.age ≤ 65535) (hn : x.s.h.age < 32768) (ho : oldA (x.age now) = false) : x.s.h.age < 3600 := by
  have hy : ∀ p, p < 1 → laterA x.s.h.age p = x.s.h.age := fun p hp => laterA_same (.inr hp)
  have hz : ∀ p, ¬ p < 1 → laterA x.s.h.age p = min (yearsOf x.s.h.age + min p 3600) 3600 := fun p hp => laterA_more (by omega) hp
  unfold oldA OneE.age at *
  simp only [beq_eq_false_iff_ne, ne_eq] at *
  unfold yearsOf at *
  by_cases h1 : now - x.at_ < 1
  · rw [hy _ h1] at ho; omega
  · rw [hz _ h1] at ho; omega
theorem step_yes {now : Int} {b : Option Int} {p : Ent11} (h : candE now p = true) (hw : p.2.end_ ≤ 9223372036854775807) : stepW now b p = match b with
    | none => some p.2.end_
    | some t => if p.2.end_ < t then some p.2.end_ else some t := by
  unfold stepW
  rw [h, show decide (p.2.end_ ≤ 9223372036854775807) = true from decide_eq_true hw]
  rfl
theorem step_no {now : Int} {b : Option Int} {p : Ent11} (h : candE now p = false) : stepW now b p = b := by unfold stepW; rw [h]; rfl
theorem cand_no {now : Int} {p : Ent11} (h : 32768 ≤ p.2.s.h.age ∨ oldA (p.2.age now) = true) : candE now p = false := by
  cases hc : candE now p with
  | false => rfl
  | true =>
    have h1 := cand_iff.1 hc
    rcases h with h | h
    · omega
    · rw [h] at h1; exact absurd h1.1 (by decide)
theorem step_wide {now : Int} {b : Option Int} {p : Ent11} (h : 9223372036854775807 < p.2.end_) : stepW now b p = b := by
  unfold stepW
  rw [show decide (p.2.end_ ≤ 9223372036854775807) = false from decide_eq_false (by omega), Bool.and_false]
  rfl
set_option maxRecDepth 100000 in
set_option maxHeartbeats 8000000 in
theorem stnext_any (sp : Option Addr) (now : Int) (f : Ky3 → Option OneE) (N : Nat) (w : World) (HE : EachAt (.pointer sp) now f N w) (hN : N ≤ 1048576)
    (hq : ∀ k x, f k = some x → ∃ g bm most, sp = some ⟨g, 0, none⟩ ∧ StF w g bm most f N) :
    Calls Tryz.prog 15 #[.pointer sp, .int .i64 now] w fun e w' => ∃ ks, KsOf f N ks ∧ e = .returned (.tuple #[.int .i64 (nxB (nextK f now ks)), .bool (nextK f now ks).isSome]) ∧ Below w.heap.size w w' := by
  have HEs := Lib.hid HE
  have HQ0 := Lib.hid hq
  clear HE hq
  refine (callsIn_wide (n := 6)).1 (callsIn_of_wp_marks Tryz.func15 rfl trivial ?_ rfl)
  simp only [Tryz.ntmps15, List.size_toArray, List.length_cons, List.length_nil, Nat.reduceAdd, Nat.reduceSub, Array.replicate_succ, Array.replicate_zero, List.push_toArray, List.append_toArray, List.nil_append, List.cons_append]
  refine wpIn_wide.2 ?_
  go_wp2_with (go_at_call 63; refine (steach_any _ _ _).mono ?_; rintro e w2 ⟨rfl, hw2⟩)
  rw [← hw2]
  have hb2 : Below w.heap.size w w2 := by
    subst hw2
    exact (((below_two w _ _).alloc (by simp; omega) _).alloc (by simp; omega) _).alloc (by simp; omega) _
  have hX2 : Nx w.heap.size w2 sp none w2 := by
    subst hw2
    refine ⟨((((Blk.new w 25 #[.pointer sp]).alloc _).alloc _).alloc _).alloc _, ?_, ?_, KpG.new (Below.refl _ _) (by simp; omega) (fun i hi => by rcases hi with rfl | rfl <;> simp <;> omega)⟩
    · have h := (((Blk.new (w.alloc (.cells #[.pointer sp] 25)) 3 #[.int .i64 0]).alloc (.cells #[.bool false] 4)).alloc (.cells #[.pointer sp] 25)).alloc (.cells #[.int .i64 now] 3)
      rw [World.size_alloc] at h
      exact h
    · have h := ((Blk.new ((w.alloc (.cells #[.pointer sp] 25)).alloc (.cells #[.int .i64 0] 3)) 4 #[.bool false]).alloc (.cells #[.pointer sp] 25)).alloc (.cells #[.int .i64 now] 3)
      rw [World.size_alloc, World.size_alloc] at h
      exact h
  have hs2 : w2.cell? ⟨w.heap.size + 1 + 1 + 1, 0, none⟩ = some (.pointer sp) := by
    subst hw2
    have h := ((Blk.new (((w.alloc (.cells #[.pointer sp] 25)).alloc (.cells #[.int .i64 0] 3)).alloc (.cells #[.bool false] 4)) 25 #[.pointer sp]).alloc (.cells #[.int .i64 now] 3)).cell 0
    rw [World.size_alloc, World.size_alloc, World.size_alloc] at h
    exact h
  have ht2 : w2.cell? ⟨w.heap.size + 1 + 1 + 1 + 1, 0, none⟩ = some (.int .i64 now) := by
    subst hw2
    have h := (Blk.new ((((w.alloc (.cells #[.pointer sp] 25)).alloc (.cells #[.int .i64 0] 3)).alloc (.cells #[.bool false] 4)).alloc (.cells #[.pointer sp] 25)) 3 #[.int .i64 now]).cell 0
    rw [World.size_alloc, World.size_alloc, World.size_alloc, World.size_alloc] at h
    exact h
  have hsz2 : w2.heap.size = w.heap.size + 5 := by subst hw2; simp
  clear hw2
  have hnp : ∀ i, (i = w.heap.size + 1 ∨ i = w.heap.size + 1 + 1) → i < w2.heap.size ∧ ∀ blk, ¬ Pts w2 i blk := by
    rintro i (rfl | rfl)
    · refine ⟨by omega, ?_⟩
      rintro blk ⟨o, n, c, h⟩
      have := hX2.best.cell 0
      rw [this] at h
      cases h
    · refine ⟨by omega, ?_⟩
      rintro blk ⟨o, n, c, h⟩
      have := hX2.found.cell 0
      rw [this] at h
      cases h
  have HB2 := Lib.hid hb2
  have HX2 := Lib.hid hX2
  generalize hs0 : w.heap.size = gb at *
  clear hX2 hb2
  refine (wpIn_wide (n := 6)).1 ?_
  refine wpIn_rangeFunc_tells (α := Ydd f now) rfl (by decide) (gf := 79) (lb := #[boxV (gb + 1 + 1 + 1), boxV (gb + 1 + 1 + 1 + 1)]) rfl trivial (enters_of Tryz.func79 (by kernel_rfl) rfl)
    (encs := fun x => #[keyV x.1.1, x.1.2.v]) (Kp := KpG gb (fun i => i = gb + 1 ∨ i = gb + 1 + 1)) (S := fun ys W => KsOf f N (ys.map (fun p : Ydd f now => p.1.1))) (N := N) (w0 := w2)
    (fun l J W hW hJ hY h0 => by
      refine (HEs.out l (gb + 1 + 1 + 1) (gb + 1 + 1 + 1 + 1) (fun i => i = gb + 1 ∨ i = gb + 1 + 1) w2 W J hJ (by rw [hs0]; exact hY) (by rw [hs0]; exact HB2.out) hnp hW hs2 ht2 (by omega) (by omega) h0).mono ?_
      rintro e W' ⟨h1, ys, ⟨h2, h3⟩, h4⟩
      exact ⟨h1, ys, h2, h4⟩)
    KpG.t (fun W l o o' hl h hc hw => KpG.b (by omega) W l o o' hl h hc hw (fun b hb => (hnp b hb).1)) (Below.refl _ _) (fun _ => rfl)
    (fun pre W => Nx gb w2 sp ((pre.map fun p : Ydd f now => entK f p.1.1).foldl (stepW now) none) W) (Nx.own (by omega))
    (ownFrom_pure _ _) HX2.out
    (fun x a' W => ∃ Bx By, Blk W Bx 68 (keyC x.1.1).toArray ∧ Blk W By 61 (stL x.1.2).toArray ∧ a' = { tmps := #[.pointer sp, .int .i64 now, boxV gb, undef, .int .i64 0, .bool false, boxV (gb + 1), boxV (gb + 1 + 1), boxV Bx, boxV By, undef, undef, .pointer sp, .int .i64 now, .func (.func 79) #[] #[boxV (gb + 1 + 1 + 1), boxV (gb + 1 + 1 + 1 + 1)], keyV x.1.1, x.1.2.v, undef, undef, undef, undef, undef, undef, undef, undef, undef, undef, undef, undef, undef, undef, undef, undef, undef, undef, undef, undef, undef, undef, undef, undef, undef, undef, undef, undef, undef, undef, undef, undef, undef, undef, undef, undef, undef, undef, undef, undef, undef], defers := [] })
    (fun x a' s W W' row h hg hr => by
      obtain ⟨Bx, By, hA, hB, h9⟩ := h
      exact ⟨Bx, By, blk_ownF (β := Unit) () W W' row hA hg hr, blk_ownF (β := Unit) () W W' row hB hg hr, h9⟩)
    ?assign ?body ?done
  case assign =>
    intro l pre x W K hI hK
    have hgW := nx_lim hI _ (.inl rfl)
    have hB : Below W.heap.size W ((W.alloc (.cells #[.int .u8 x.1.1.1, .int .u32 x.1.1.2.1, .int .u32 x.1.1.2.2] 68)).alloc (.cells (stC x.1.2.h x.1.2.A x.1.2.n x.1.2.c) 61)) := below_two _ _ _
    gi_wp2
    exact hK _ _ (keepsF_below hB) (KpG.new hB (by omega) (nx_lim hI)) (hI.later hB (by omega)) ⟨W.heap.size, W.heap.size + 1, (Blk.new W 68 _).alloc _, new_at _ _ _, rfl⟩
  case body =>
    rintro l pre x a' W hI ⟨Bx, By, bK, bX, rfl⟩ hlt
    obtain ⟨⟨⟨k1, k2, k3⟩, ⟨hage, hopts, htyp, hid, hadv, hseq, hsum, hlen⟩, sA, sn, sc, sB⟩, hp⟩ : ∃ p, x.1 = p := ⟨_, rfl⟩
    have HP := Lib.hid hp
    have hok := x.h
    have hsome : ∃ y, f x.1.1 = some y := by obtain ⟨y, hy, _⟩ := x.2; exact ⟨y, hy⟩
    rw [hp] at bX bK hok hsome ⊢
    have HA := hok.2.2.age
    obtain ⟨y, hy⟩ := hsome
    have hag : hage = y.age now := by have := hok.1; unfold hAt at this; simp only at this; rw [hy] at this; exact congrArg Hd.age this
    obtain ⟨g, bm, most, rfl, hst⟩ := HQ0.out _ _ hy
    clear hok hp
    have hgy := hst.good _ _ hy
    have HLK := Lib.hid (show lookF (fun k => (f k).map OneE.v) (k1, k2, k3) zOne.v false = y.v by unfold lookF; simp [hy])
    have hek : entK f x.1.1 = ((k1, k2, k3), y) := by unfold entK; rw [HP.out]; simp only; rw [hy]; rfl
    have hfold : ((pre ++ [x]).map fun p : Ydd f now => entK f p.1.1).foldl (stepW now) none = stepW now ((pre.map fun p : Ydd f now => entK f p.1.1).foldl (stepW now) none) ((k1, k2, k3), y) := by
      rw [List.map_append, List.foldl_append]
      show stepW now _ (entK f x.1.1) = _
      rw [hek]
    rw [hfold]
    have hya := hgy.2.1.head.age
    have hyt := hgy.2.2
    have hYg : 0 ≤ y.s.h.age ∧ y.s.h.age ≤ 65535 := hya
    have HYo := Lib.hid (And.intro hag (And.intro hya hyt))
    clear hag hya hyt hgy hek hfold hYg hy
    generalize (pre.map fun p : Ydd f now => entK f p.1.1).foldl (stepW now) none = bo at *
    have HBW := hI.kp.below
    have HSt := Lib.hid (hst.later (HB2.out.trans (HBW.mono (by omega)) |> fun h => (hs0 ▸ h : Below w.heap.size w W)))
    clear hst HBW
    obtain ⟨⟨⟨yage, yopts, ytyp, yid, yadv, yseq, ysum, ylen⟩, yA, yn, yc, yB⟩, yat⟩ := y
    have bX' : Blk W By 61 #[.int .u16 hage, .int .u8 hopts, .int .u8 htyp, .int .u32 hid, .int .u32 hadv, .int .i32 hseq, .int .u16 hsum, .int .u16 hlen, .slice sA sn sc] := bX
    have hd : 1 ≤ 6 - 1 - 1 := by omega
    have hgW := nx_lim hI _ (.inl rfl)
    have HI := Lib.hid hI
    have HBX := Lib.hid bX'
    have HBK : Hid (Blk W Bx 68 #[.int .u8 k1, .int .u32 k2, .int .u32 k3]) := Lib.hid bK
    clear bX bX' bK hI
    gi_wp2
    have hbd : Below W.heap.size W W.drew := (Below.refl _ _).drew
    refine wpIn_round_s (fun V : World => V.cell? ⟨gb, 0, none⟩ = some (.pointer (some ⟨g, 0, none⟩)) ∧ Blk V Bx 68 #[.int .u8 k1, .int .u32 k2, .int .u32 k3] ∧ Blk V g 79 #[.map (some bm), .int .i64 most] ∧ MapF keyV V bm (fun k => (f k).map OneE.v) N) [(0, true), (1, true), (2, true), (3, true), (4, true), (5, true), (6, false), (7, false)] (by kernel_rfl) (fun _ d _ _ _ h => by cases d <;> exact h) (fun _ _ h => h) ?_
    simp only [List.map_cons, List.map_nil, nthOp_zero, nthOp_succ]
    have HS : Hid ((fun V : World => V.cell? ⟨gb, 0, none⟩ = some (.pointer (some ⟨g, 0, none⟩)) ∧ Blk V Bx 68 #[.int .u8 k1, .int .u32 k2, .int .u32 k3] ∧ Blk V g 79 #[.map (some bm), .int .i64 most] ∧ MapF keyV V bm (fun k => (f k).map OneE.v) N) W.drew) := Lib.hid ⟨(HI.out.later hbd (by omega)).s.cell 0, HBK.out.later hbd, HSt.out.blk.later hbd, (HSt.out.later hbd).map⟩
    have HBd := Lib.hid hbd
    clear hbd
    generalize W.drew = w4 at *
    refine wpS_take HS (by kernel_rfl) (by intro V hV; have j1 := hV.1; have j0 := hV.2.2.1.cell 0; simp only [List.getElem?_toArray, List.getElem?_cons_zero] at j0; clear hV; go_simp; try with_reducible rfl) ?_
    refine wpS_take HS (by kernel_rfl) (by intro V hV; have j1 := hV.1; have j0 := hV.2.2.1.cell 0; simp only [List.getElem?_toArray, List.getElem?_cons_zero] at j0; clear hV; go_simp; try with_reducible rfl) ?_
    refine wpS_take HS (by kernel_rfl) (by intro V hV; have j1 := hV.1; have j0 := hV.2.2.1.cell 0; simp only [List.getElem?_toArray, List.getElem?_cons_zero] at j0; clear hV; go_simp; try with_reducible rfl) ?_
    refine wpS_take HS (by kernel_rfl) (by intro V hV; have j1 := hV.1; have j0 := hV.2.2.1.cell 0; simp only [List.getElem?_toArray, List.getElem?_cons_zero] at j0; clear hV; go_simp; try with_reducible rfl) ?_
    go_simp
    refine wpS_take HS (by kernel_rfl) (fun V hV => exec_load_row rfl rfl hV.2.1 Tryz.underlying68 rfl info_key3) ?_
    refine wpS_take HS (by kernel_rfl) (fun V hV => exec_lookupF (a := (k1, k2, k3)) keyT Tryz.underlying77 zeroOne rfl hV.2.2.2 rfl rfl) ?_
    simp only [HLK.out]
    refine wpS_do fun K hK => ?_
    go_simp
    go_wp2
    have hba : Below w4.heap.size w4 (w4.alloc (.cells #[.int .u16 0, .int .u8 0, .int .u8 0, .int .u32 0, .int .u32 0, .int .i32 0, .int .u16 0, .int .u16 0, .slice none 0 0, .int .i64 0] 98)) := (Below.refl _ _).alloc (Nat.le_refl _) _
    refine hK.out _ _ ⟨(World.cell?_of_block (a := ⟨gb, 0, none⟩) (hba.block gb (by have := HBd.out.size; omega))).trans HS.out.1, HS.out.2.1.later hba, HS.out.2.2.1.later hba, HS.out.2.2.2.later hba⟩ ?_
    clear hK K hba
    refine wpS_do fun K hK => ?_
    go_wp2_with (go_must (refine wpList_store_row rfl 98 _ _ rfl w4.heap.size #[.int .u16 yage, .int .u8 yopts, .int .u8 ytyp, .int .u32 yid, .int .u32 yadv, .int .i32 yseq, .int .u16 ysum, .int .u16 ylen, .slice yA yn yc, .int .i64 yat] rfl rfl 98 _ (heap_alloc_new w4 _) info_one rfl (by simp [Value.oneCell']) ?_; rw [World.setRow_alloc_new]))
    have hb1 : Below w4.heap.size w4 (w4.alloc (.cells #[.int .u16 yage, .int .u8 yopts, .int .u8 ytyp, .int .u32 yid, .int .u32 yadv, .int .i32 yseq, .int .u16 ysum, .int .u16 ylen, .slice yA yn yc, .int .i64 yat] 98)) := (Below.refl _ _).alloc (Nat.le_refl _) _
    have hX0 := Blk.new w4 98 #[.int .u16 yage, .int .u8 yopts, .int .u8 ytyp, .int .u32 yid, .int .u32 yadv, .int .i32 yseq, .int .u16 ysum, .int .u16 ylen, .slice yA yn yc, .int .i64 yat]
    have HB1 := Lib.hid (below_then HBd.out hb1)
    refine hK.out _ _ ⟨(World.cell?_of_block (a := ⟨gb, 0, none⟩) (hb1.block gb (by have := HBd.out.size; omega))).trans HS.out.1, HS.out.2.1.later hb1, HS.out.2.2.1.later hb1, HS.out.2.2.2.later hb1⟩ ?_
    clear hK K hb1
    generalize w4.alloc (.cells #[.int .u16 yage, .int .u8 yopts, .int .u8 ytyp, .int .u32 yid, .int .u32 yadv, .int .i32 yseq, .int .u16 ysum, .int .u16 ylen, .slice yA yn yc, .int .i64 yat] 98) = w5 at *
    generalize w4.heap.size = gx at *
    refine wpS_nil ?_
    go_simp
    clear HS
    have HX0 := Lib.hid hX0
    have HI5 := Lib.hid (HI.out.later HB1.out (by omega))
    have hX5 := HBX.out.later HB1.out
    have c0 := hX0.cell 0; have c9 := hX0.cell 9
    have j0 := hX5.cell 0
    have n0 := HI5.out.best.cell 0; have n1 := HI5.out.found.cell 0
    have g0 := HI5.out.best.frozen 0; have g1 := HI5.out.found.frozen 0
    simp only [List.getElem?_toArray, List.getElem?_cons_zero, List.getElem?_cons_succ] at c0 c9 j0 n0 n1
    clear hX0 hX5 HSt HBK
    have hand := u16_andNo yage HYo.out.2.1.1 HYo.out.2.1.2
    have KEEP : ∀ (b' : Option Int), b' = bo → KeepsFrom w2.heap.size W w5 ∧ KpG gb (fun i => i = gb + 1 ∨ i = gb + 1 + 1) W w5 ∧ Nx gb w2 (some ⟨g, 0, none⟩) b' w5 := fun b' hb' => by
      subst hb'
      exact ⟨keepsF_below HB1.out, KpG.new HB1.out (by omega) (nx_lim HI.out), HI5.out⟩
    have STORE : ∀ (b' : Option Int) (t : Int), b' = some t → KeepsFrom w2.heap.size W ((w5.setCell ⟨gb + 1, 0, none⟩ (.int .i64 t)).setCell ⟨gb + 1 + 1, 0, none⟩ (.bool true)) ∧ KpG gb (fun i => i = gb + 1 ∨ i = gb + 1 + 1) W ((w5.setCell ⟨gb + 1, 0, none⟩ (.int .i64 t)).setCell ⟨gb + 1 + 1, 0, none⟩ (.bool true)) ∧ Nx gb w2 (some ⟨g, 0, none⟩) b' ((w5.setCell ⟨gb + 1, 0, none⟩ (.int .i64 t)).setCell ⟨gb + 1 + 1, 0, none⟩ (.bool true)) := fun b' t hb' => by
      subst hb'
      have h := nx_store t HI5.out rfl rfl (by have := HB1.out.size; omega)
      exact ⟨(keepsF_below HB1.out).trans (((KeepsOthers.setCell _ _ _).trans (KeepsOthers.setCell _ _ _)).from _), (KpG.new HB1.out (by omega) (nx_lim HI.out)).t h.2, h.1⟩
    have HKEEP := Lib.hid KEEP
    have HSTORE := Lib.hid STORE
    clear KEEP STORE
    cases ho : (yearsOf hage == 3600)
    · by_cases hna : 32768 ≤ yage
      · rw [if_pos hna] at hand
        gi_wp2_with (refine ⟨trivial, ?_⟩; gi_at_call 64; refine (CallsIn.inRound l (callsIn_wide.2 (old_any hage _ HA.1 HA.2))).mono ?_; rintro e w' ⟨rfl, rfl⟩)
        exact HKEEP.out _ (step_no (cand_no (.inl hna)))
      · rw [if_neg hna] at hand
        have how : oldA (OneE.age ⟨⟨⟨yage, yopts, ytyp, yid, yadv, yseq, ysum, ylen⟩, yA, yn, yc, yB⟩, yat⟩ now) = false := by rw [← HYo.out.1]; exact ho
        have hyo := young (x := ⟨⟨⟨yage, yopts, ytyp, yid, yadv, yseq, ysum, ylen⟩, yA, yn, yc, yB⟩, yat⟩) HYo.out.2.1 (by show yage < 32768; omega) how
        have hcand : candE now ((k1, k2, k3), (⟨⟨⟨yage, yopts, ytyp, yid, yadv, yseq, ysum, ylen⟩, yA, yn, yc, yB⟩, yat⟩ : OneE)) = true := cand_iff.2 ⟨how, by show yage < 32768; omega⟩
        have HC := Lib.hid hcand
        obtain ⟨v1, hv1⟩ : ∃ v1, IntKind.i64.wrap (yat + 3600) = v1 := ⟨_, rfl⟩
        obtain ⟨v2, hv2⟩ : ∃ v2, IntKind.i64.wrap (v1 - yage) = v2 := ⟨_, rfl⟩
        have hw0 : wrap64 yage = yage := by have := HYo.out.2.1.1; have : 0 ≤ yage := this; unfold wrap64; omega
        have hw2 : wrap64 (v1 - yage) = v2 := (IntWalk.i64_left _).symm.trans hv2
        rcases end_wrap yage yat HYo.out.2.1 HYo.out.2.2 hyo with ⟨he1, he2, he3⟩ | ⟨he1, he2⟩
        · rw [hv1, hv2] at he2
          have d0 : decide (0 ≤ v2) = true := decide_eq_true (by omega)
          have he4 : OneE.end_ ⟨⟨⟨yage, yopts, ytyp, yid, yadv, yseq, ysum, ylen⟩, yA, yn, yc, yB⟩, yat⟩ = v2 := he2.symm
          have HE4 := Lib.hid (And.intro hcand (And.intro (show OneE.end_ ⟨⟨⟨yage, yopts, ytyp, yid, yadv, yseq, ysum, ylen⟩, yA, yn, yc, yB⟩, yat⟩ ≤ 9223372036854775807 from he1) he4))
          clear hcand how hyo he1 he2 he3 he4
          cases bo with
          | none =>
            gi_wp2_with (refine ⟨trivial, ?_⟩; gi_at_call 64; refine (CallsIn.inRound l (callsIn_wide.2 (old_any hage _ HA.1 HA.2))).mono ?_; rintro e w' ⟨rfl, rfl⟩)
            exact HSTORE.out _ v2 ((step_yes HE4.out.1 HE4.out.2.1).trans (congrArg some HE4.out.2.2))
          | some t =>
            by_cases hl : v2 < t
            · have dl : decide (v2 < t) = true := decide_eq_true hl
              gi_wp2_with (refine ⟨trivial, ?_⟩; gi_at_call 64; refine (CallsIn.inRound l (callsIn_wide.2 (old_any hage _ HA.1 HA.2))).mono ?_; rintro e w' ⟨rfl, rfl⟩)
              exact HSTORE.out _ v2 ((step_yes HE4.out.1 HE4.out.2.1).trans (by show (if OneE.end_ _ < t then _ else _) = _; rw [HE4.out.2.2, if_pos (of_decide_eq_true dl)]))
            · have dl : decide (v2 < t) = false := decide_eq_false hl
              gi_wp2_with (refine ⟨trivial, ?_⟩; gi_at_call 64; refine (CallsIn.inRound l (callsIn_wide.2 (old_any hage _ HA.1 HA.2))).mono ?_; rintro e w' ⟨rfl, rfl⟩)
              exact HKEEP.out _ ((step_yes HE4.out.1 HE4.out.2.1).trans (by show (if OneE.end_ _ < t then _ else _) = _; rw [HE4.out.2.2, if_neg (of_decide_eq_false dl)]))
        · rw [hv1, hv2] at he2
          have d0 : decide (0 ≤ v2) = false := decide_eq_false (by omega)
          have HE5 := Lib.hid (show 9223372036854775807 < OneE.end_ ⟨⟨⟨yage, yopts, ytyp, yid, yadv, yseq, ysum, ylen⟩, yA, yn, yc, yB⟩, yat⟩ from he1)
          gi_wp2_with (refine ⟨trivial, ?_⟩; gi_at_call 64; refine (CallsIn.inRound l (callsIn_wide.2 (old_any hage _ HA.1 HA.2))).mono ?_; rintro e w' ⟨rfl, rfl⟩)
          exact HKEEP.out _ (step_wide (show _ < OneE.end_ _ from HE5.out))
    · gi_wp2_with (refine ⟨trivial, ?_⟩; gi_at_call 64; refine (CallsIn.inRound l (callsIn_wide.2 (old_any hage _ HA.1 HA.2))).mono ?_; rintro e w' ⟨rfl, rfl⟩)
      exact HKEEP.out _ (step_no (cand_no (.inr (by show oldA (OneE.age _ now) = true; rw [← HYo.out.1]; exact ho))))
  case done =>
    rintro D ys W hD hks hI hK
    have HI := Lib.hid ((Nx.own (w2 := w2) (sp := sp) (β := Unit) (b := fun _ => (ys.map fun p : Ydd f now => entK f p.1.1).foldl (stepW now) none) (B := w2.heap.size) (by omega)).putObj (s := ()) (.deferred none) hI hD hK rfl)
    have HKs := Lib.hid hks
    have hnx : nextK f now (ys.map (fun p : Ydd f now => p.1.1)) = (ys.map fun p : Ydd f now => entK f p.1.1).foldl (stepW now) none := by unfold nextK; rw [List.map_map]; rfl
    have HNx := Lib.hid hnx
    generalize (ys.map fun p : Ydd f now => entK f p.1.1).foldl (stepW now) none = bo at *
    have k0 := hI.best.cell 0
    have k1 := hI.found.cell 0
    simp only [List.getElem?_toArray, List.getElem?_cons_zero] at k0 k1
    clear hks hnx
    go_wp2_with fail
    rename_i K0 hKK
    refine Code.wp_mono (Q := Exit.then K0 (fun _ _ _ => False)) ?_ ?_
    · intro e a w h
      cases e <;> first | exact h | exact h.elim
    refine wp_region_s (fun V : World => V.cell? ⟨gb + 1, 0, none⟩ = some (.int .i64 (nxB bo)) ∧ V.cell? ⟨gb + 1 + 1, 0, none⟩ = some (.bool bo.isSome)) [(0, true), (2, true), (1, true), (3, true)] (by kernel_rfl) (fun _ d _ _ _ h => by cases d <;> exact h) ?_
    simp only [List.map_cons, List.map_nil, nthOp_zero, nthOp_succ]
    have HS : Hid ((fun V : World => V.cell? ⟨gb + 1, 0, none⟩ = some (.int .i64 (nxB bo)) ∧ V.cell? ⟨gb + 1 + 1, 0, none⟩ = some (.bool bo.isSome)) W.drew) := Lib.hid ⟨k0, k1⟩
    have hKd : W.drew.heap[D]? = some (.deferred (some [])) := hK
    have HKd := Lib.hid hKd
    have HXd : Hid (Below gb w (W.drew.putObj D (.deferred none))) := Lib.hid (HB2.out.trans (HI.out.kp.below.trans (show Below gb (W.putObj D (.deferred none)) (W.drew.putObj D (.deferred none)) from (Below.refl _ _).drew)))
    clear hI hK hKd HI k0 k1
    generalize W.drew = w9 at *
    refine wpS_take HS (by kernel_rfl) (by intro V hV; have j0 := hV.1; have j1 := hV.2; clear hV; go_simp; try with_reducible rfl) ?_
    refine wpS_take HS (by kernel_rfl) (by intro V hV; have j0 := hV.1; have j1 := hV.2; clear hV; go_simp; try with_reducible rfl) ?_
    refine wpS_take HS (by kernel_rfl) (by intro V hV; have j0 := hV.1; have j1 := hV.2; clear hV; go_simp; try with_reducible rfl) ?_
    refine wpS_take HS (by kernel_rfl) (by intro V hV; have j0 := hV.1; have j1 := hV.2; clear hV; go_simp; try with_reducible rfl) ?_
    refine wpS_nil ?_
    go_simp
    go_wp2
    refine ⟨by simp, .inl ⟨_, _, rfl, run_takeDeferred HKd.out, ?_⟩⟩
    exact ⟨_, results_tmp2 rfl _ _ _, _, HKs.out, by rw [HNx.out]; rfl, HXd.out⟩
end Go.Proofs.YtpncbggjngamgaaGreatDoor
namespace Go.Proofs.YtpncbggjngamgaaGreatDoor
set_option linter.unusedVariables false
open Go.RowKit

theorem results_cell_row_tmp {P : Program} {fn : Func} {p u : Tmp} {ty : TypeId} (h : fn.results = #[.cell p ty, .tmp u]) (tmps : Array Value) (w : World) (g : Nat) (t : TypeId) (cs : Array Value) (fr : Nat × Nat) (d : TypeDesc)
    (hp : tmps.getD p undef = .pointer (some ⟨g, 0, none⟩)) (hg : w.heap[g]? = some (.cells cs t fr))
    (hu : P.underlying ty = some d) (hd : (match d with | .struct _ | .array _ _ => true | _ => false) = true) (hi : (P.info? ty).map (·.size) = some cs.size) :
    (results fn tmps).run P w = .ok (.tuple #[.agg cs, tmps.getD u undef]) w := by
  have hp' : tmps[p]?.getD undef = .pointer (some ⟨g, 0, none⟩) := by simpa using hp
  simp [results, h, hp', asAddr, run_loadVar_row w g t ty cs fr d hg hu hd hi]
set_option maxRecDepth 100000 in
set_option maxHeartbeats 8000000 in
theorem stputfull_any (w : World) (g bm : Nat) (most : Int) (f : Ky3 → Option OneE) (n : Nat) (q : StF w g bm most f n) (x : SE) (hx : x.rd w) (now : Int) (hn : 0 ≤ now ∧ now ≤ 9223372036854775807) (hroom : f x.key = none ∧ most ≤ (n : Int)) :
    Calls Tryz.prog 13 #[.pointer (some ⟨g, 0, none⟩), .int .i64 now, x.v] w fun e w' => e = .returned (.int .i64 47) ∧ Below w.heap.size w w' := by
  obtain ⟨⟨xage, xopts, k1, k2, k3, xseq, xsum, xlen⟩, xA, xn, xc, xB⟩ := x
  have hb0 : Below w.heap.size w (w.alloc (.cells #[.int .u16 xage, .int .u8 xopts, .int .u8 k1, .int .u32 k2, .int .u32 k3, .int .i32 xseq, .int .u16 xsum, .int .u16 xlen, .slice xA xn xc] 61)) := (Below.refl _ _).alloc (Nat.le_refl _) _
  have HQ := Lib.hid q
  have HX := Lib.hid hx
  have HBx : Hid (Blk (w.alloc (.cells #[.int .u16 xage, .int .u8 xopts, .int .u8 k1, .int .u32 k2, .int .u32 k3, .int .i32 xseq, .int .u16 xsum, .int .u16 xlen, .slice xA xn xc] 61)) w.heap.size 61 #[.int .u16 xage, .int .u8 xopts, .int .u8 k1, .int .u32 k2, .int .u32 k3, .int .i32 xseq, .int .u16 xsum, .int .u16 xlen, .slice xA xn xc]) := Lib.hid (Blk.new _ _ _)
  have HB0 := Lib.hid hb0
  have HRm := Lib.hid (show f (k1, k2, k3) = none ∧ most ≤ (n : Int) from hroom)
  have HN := Lib.hid (stnone_any _ g bm (show (w.alloc (.cells #[.int .u16 xage, .int .u8 xopts, .int .u8 k1, .int .u32 k2, .int .u32 k3, .int .i32 xseq, .int .u16 xsum, .int .u16 xlen, .slice xA xn xc] 61)).cell? ⟨g, 0, none⟩ = some (.map (some bm)) from (q.later hb0).blk.cell 0))
  obtain ⟨y, b, hy, hyb⟩ := lookS f (k1, k2, k3)
  obtain ⟨⟨⟨yage, yopts, ytyp, yid, yadv, yseq, ysum, ylen⟩, yA, yn, yc, yB⟩, yat⟩ := y
  have HLK := Lib.hid hy
  have HYB := Lib.hid (show (f (k1, k2, k3)).isSome = b by rcases hyb with ⟨h, rfl⟩ | ⟨h, rfl, _⟩ <;> rw [h] <;> rfl)
  have dn : decide (now < 0) = false := decide_eq_false (by omega)
  clear q hb0 hx hy hyb hroom
  go_enter Tryz.func13, Tryz.ntmps13
  go_wp2_with (go_at_call 28; refine HN.out.mono ?_; rintro e w' ⟨rfl, rfl⟩)
  clear HN dn
  generalize hw1 : w.alloc (.cells #[.int .u16 xage, .int .u8 xopts, .int .u8 k1, .int .u32 k2, .int .u32 k3, .int .i32 xseq, .int .u16 xsum, .int .u16 xlen, .slice xA xn xc] 61) = w1 at *
  clear hw1
  refine (skey_any (⟨xage, xopts, k1, k2, k3, xseq, xsum, xlen⟩ : Hd) w1).mono ?_
  rintro e w2 ⟨rfl, hb2⟩
  have hlt := HBx.out.lt
  have hb3 := below_then hb2 ((Below.refl w2.heap.size w2).alloc (Nat.le_refl _) (.cells #[.int .u8 k1, .int .u32 k2, .int .u32 k3] 68))
  have HB3 : Hid (Below w.heap.size w (w2.alloc (.cells #[.int .u8 k1, .int .u32 k2, .int .u32 k3] 68))) := Lib.hid (below_then HB0.out hb3)
  replace HBx := Lib.hid (HBx.out.later hb3)
  have HK0 : Hid (Blk (w2.alloc (.cells #[.int .u8 k1, .int .u32 k2, .int .u32 k3] 68)) w2.heap.size 68 #[.int .u8 k1, .int .u32 k2, .int .u32 k3]) := Lib.hid (Blk.new _ _ _)
  have HGK : Hid (w.heap.size < w2.heap.size) := Lib.hid (Nat.lt_of_lt_of_le hlt hb2.size)
  clear hb2 hb3 HB0 hlt
  go_wp2_with fail
  generalize w2.alloc (.cells #[.int .u8 k1, .int .u32 k2, .int .u32 k3] 68) = w3 at *
  generalize w2.heap.size = gk at *
  refine wp_region_s (fun W : World => Blk W g 79 #[.map (some bm), .int .i64 most] ∧ Blk W gk 68 #[.int .u8 k1, .int .u32 k2, .int .u32 k3] ∧ MapF keyV W bm (fun k => (f k).map OneE.v) n) [(0, true), (1, true), (2, true), (3, true), (4, true), (5, true), (6, true), (7, true), (8, true), (9, false), (10, false), (11, true)] (by kernel_rfl) (fun _ d _ _ _ h => by cases d <;> exact h) ?_
  simp only [List.map_cons, List.map_nil, nthOp_zero, nthOp_succ]
  have HS : Hid ((fun W : World => Blk W g 79 #[.map (some bm), .int .i64 most] ∧ Blk W gk 68 #[.int .u8 k1, .int .u32 k2, .int .u32 k3] ∧ MapF keyV W bm (fun k => (f k).map OneE.v) n) w3.drew) := Lib.hid ⟨(HQ.out.later (below_then HB3.out (Below.refl _ _).drew)).blk, HK0.out.later (Below.refl _ _).drew, (HQ.out.later (below_then HB3.out (Below.refl _ _).drew)).map⟩
  have hbd : Below w3.heap.size w3 w3.drew := (Below.refl _ _).drew
  have HBD := Lib.hid hbd
  clear hbd
  generalize hwd : w3.drew = w4 at *
  clear hwd
  refine wpS_take HS (by kernel_rfl) (by intro W hW; have j0 := hW.1.cell 0; have j1 := hW.1.cell 1; simp only [List.getElem?_toArray, List.getElem?_cons_zero, List.getElem?_cons_succ] at j0 j1; clear hW; go_simp; try with_reducible rfl) ?_
  refine wpS_take HS (by kernel_rfl) (by intro W hW; have j0 := hW.1.cell 0; have j1 := hW.1.cell 1; simp only [List.getElem?_toArray, List.getElem?_cons_zero, List.getElem?_cons_succ] at j0 j1; clear hW; go_simp; try with_reducible rfl) ?_
  refine wpS_take HS (by kernel_rfl) (by intro W hW; have j0 := hW.1.cell 0; have j1 := hW.1.cell 1; simp only [List.getElem?_toArray, List.getElem?_cons_zero, List.getElem?_cons_succ] at j0 j1; clear hW; go_simp; try with_reducible rfl) ?_
  refine wpS_take HS (by kernel_rfl) (by intro W hW; have j0 := hW.1.cell 0; have j1 := hW.1.cell 1; simp only [List.getElem?_toArray, List.getElem?_cons_zero, List.getElem?_cons_succ] at j0 j1; clear hW; go_simp; try with_reducible rfl) ?_
  refine wpS_take HS (by kernel_rfl) (fun W hW => exec_load_row rfl rfl hW.2.1 Tryz.underlying68 rfl info_key3) ?_
  refine wpS_take HS (by kernel_rfl) (fun W hW => exec_lookupF (a := (k1, k2, k3)) keyT Tryz.underlying77 zeroOne rfl hW.2.2 rfl rfl) ?_
  simp only [HLK.out]
  refine wpS_take HS (by kernel_rfl) (by intro W hW; have j0 := hW.1.cell 0; have j1 := hW.1.cell 1; simp only [List.getElem?_toArray, List.getElem?_cons_zero, List.getElem?_cons_succ] at j0 j1; clear hW; go_simp; try with_reducible rfl) ?_
  refine wpS_take HS (by kernel_rfl) (by intro W hW; have j0 := hW.1.cell 0; have j1 := hW.1.cell 1; simp only [List.getElem?_toArray, List.getElem?_cons_zero, List.getElem?_cons_succ] at j0 j1; clear hW; go_simp; try with_reducible rfl) ?_
  refine wpS_take HS (by kernel_rfl) (by intro W hW; have j0 := hW.1.cell 0; have j1 := hW.1.cell 1; simp only [List.getElem?_toArray, List.getElem?_cons_zero, List.getElem?_cons_succ] at j0 j1; clear hW; go_simp; try with_reducible rfl) ?_
  refine wpS_do fun K hK => ?_
  go_wp2
  have hba : Below w4.heap.size w4 (w4.alloc (.cells #[.int .u16 0, .int .u8 0, .int .u8 0, .int .u32 0, .int .u32 0, .int .i32 0, .int .u16 0, .int .u16 0, .slice none 0 0, .int .i64 0] 98)) := (Below.refl _ _).alloc (Nat.le_refl _) _
  refine hK.out _ _ ⟨HS.out.1.later hba, HS.out.2.1.later hba, HS.out.2.2.later hba⟩ ?_
  clear hK K hba
  refine wpS_do fun K hK => ?_
  go_wp2_with (go_must (refine wpList_store_row rfl 98 _ _ rfl w4.heap.size #[.int .u16 yage, .int .u8 yopts, .int .u8 ytyp, .int .u32 yid, .int .u32 yadv, .int .i32 yseq, .int .u16 ysum, .int .u16 ylen, .slice yA yn yc, .int .i64 yat] rfl rfl 98 _ (heap_alloc_new w4 _) info_one rfl (by simp [Value.oneCell']) ?_; rw [World.setRow_alloc_new]))
  have hb1 : Below w4.heap.size w4 (w4.alloc (.cells #[.int .u16 yage, .int .u8 yopts, .int .u8 ytyp, .int .u32 yid, .int .u32 yadv, .int .i32 yseq, .int .u16 ysum, .int .u16 ylen, .slice yA yn yc, .int .i64 yat] 98)) := (Below.refl _ _).alloc (Nat.le_refl _) _
  have HX0 : Hid (Blk (w4.alloc (.cells #[.int .u16 yage, .int .u8 yopts, .int .u8 ytyp, .int .u32 yid, .int .u32 yadv, .int .i32 yseq, .int .u16 ysum, .int .u16 ylen, .slice yA yn yc, .int .i64 yat] 98)) w4.heap.size 98 #[.int .u16 yage, .int .u8 yopts, .int .u8 ytyp, .int .u32 yid, .int .u32 yadv, .int .i32 yseq, .int .u16 ysum, .int .u16 ylen, .slice yA yn yc, .int .i64 yat]) := Lib.hid (Blk.new _ _ _)
  replace HS : Hid ((fun W : World => Blk W g 79 #[.map (some bm), .int .i64 most] ∧ Blk W gk 68 #[.int .u8 k1, .int .u32 k2, .int .u32 k3] ∧ MapF keyV W bm (fun k => (f k).map OneE.v) n) (w4.alloc (.cells #[.int .u16 yage, .int .u8 yopts, .int .u8 ytyp, .int .u32 yid, .int .u32 yadv, .int .i32 yseq, .int .u16 ysum, .int .u16 ylen, .slice yA yn yc, .int .i64 yat] 98))) := Lib.hid ⟨HS.out.1.later hb1, HS.out.2.1.later hb1, HS.out.2.2.later hb1⟩
  have HB1 := Lib.hid hb1
  clear hb1
  refine hK.out _ _ HS.out ?_
  clear hK K
  generalize hg1 : w4.alloc (.cells #[.int .u16 yage, .int .u8 yopts, .int .u8 ytyp, .int .u32 yid, .int .u32 yadv, .int .i32 yseq, .int .u16 ysum, .int .u16 ylen, .slice yA yn yc, .int .i64 yat] 98) = w5 at *
  clear hg1
  generalize hgx : w4.heap.size = gx at *
  refine wpS_take HS (by kernel_rfl) (by intro W hW; have j0 := hW.1.cell 0; have j1 := hW.1.cell 1; simp only [List.getElem?_toArray, List.getElem?_cons_zero, List.getElem?_cons_succ] at j0 j1; clear hW; go_simp; try with_reducible rfl) ?_
  refine wpS_nil ?_
  go_simp
  replace HBx := Lib.hid (((HBx.out.later HBD.out)).later (hgx ▸ HB1.out))
  have HB5 : Hid (Below w.heap.size w w5) := Lib.hid (below_then (below_then HB3.out HBD.out) (hgx ▸ HB1.out))
  have hgx5 : w.heap.size ≤ gx := by rw [← hgx]; exact (below_then HB3.out HBD.out).size
  clear HB3 HBD HB1 HX0 HLK HK0 hgx5
  clear hgx
  go_wp2_with fail
  refine wp_region_s (fun W : World => Blk W g 79 #[.map (some bm), .int .i64 most] ∧ Blk W gk 68 #[.int .u8 k1, .int .u32 k2, .int .u32 k3] ∧ MapF keyV W bm (fun k => (f k).map OneE.v) n) [(0, true), (1, true), (2, true), (3, true), (4, true), (5, true), (8, true), (9, true), (10, true), (6, true), (7, true), (11, true), (12, true), (13, true)] (by kernel_rfl) (fun _ d _ _ _ h => by cases d <;> exact h) ?_
  simp only [List.map_cons, List.map_nil, nthOp_zero, nthOp_succ]
  have hb6 : Below w5.heap.size w5 w5.drew := (Below.refl _ _).drew
  replace HS : Hid ((fun W : World => Blk W g 79 #[.map (some bm), .int .i64 most] ∧ Blk W gk 68 #[.int .u8 k1, .int .u32 k2, .int .u32 k3] ∧ MapF keyV W bm (fun k => (f k).map OneE.v) n) w5.drew) := Lib.hid ⟨HS.out.1.later hb6, HS.out.2.1.later hb6, HS.out.2.2.later hb6⟩
  replace HBx := Lib.hid (HBx.out.later hb6)
  have HB6 := Lib.hid (below_then HB5.out hb6)
  clear hb6 HB5
  generalize hwd : w5.drew = w6 at *
  clear hwd
  have hbf : b = false := by have h := HYB.out; rw [HRm.out.1] at h; exact h.symm
  subst hbf
  have dmo : decide (most ≤ (n : Int)) = true := decide_eq_true HRm.out.2
  refine wpS_take HS (by kernel_rfl) (by intro W hW; have j0 := hW.1.cell 0; have j1 := hW.1.cell 1; simp only [List.getElem?_toArray, List.getElem?_cons_zero, List.getElem?_cons_succ] at j0 j1; clear hW; go_simp; try with_reducible rfl) ?_
  refine wpS_take HS (by kernel_rfl) (by intro W hW; have j0 := hW.1.cell 0; have j1 := hW.1.cell 1; simp only [List.getElem?_toArray, List.getElem?_cons_zero, List.getElem?_cons_succ] at j0 j1; clear hW; go_simp; try with_reducible rfl) ?_
  refine wpS_take HS (by kernel_rfl) (by intro W hW; have j0 := hW.1.cell 0; have j1 := hW.1.cell 1; simp only [List.getElem?_toArray, List.getElem?_cons_zero, List.getElem?_cons_succ] at j0 j1; clear hW; go_simp; try with_reducible rfl) ?_
  refine wpS_take HS (by kernel_rfl) (by intro W hW; have j0 := hW.1.cell 0; have j1 := hW.1.cell 1; simp only [List.getElem?_toArray, List.getElem?_cons_zero, List.getElem?_cons_succ] at j0 j1; have hl := maplen (T := 77) Tryz.underlying77 hW.2.2; clear hW; go_simp; try with_reducible rfl) ?_
  refine wpS_take HS (by kernel_rfl) (by intro W hW; have j0 := hW.1.cell 0; have j1 := hW.1.cell 1; simp only [List.getElem?_toArray, List.getElem?_cons_zero, List.getElem?_cons_succ] at j0 j1; have hl := maplen (T := 77) Tryz.underlying77 hW.2.2; clear hW; go_simp; try with_reducible rfl) ?_
  refine wpS_take HS (by kernel_rfl) (by intro W hW; have j0 := hW.1.cell 0; have j1 := hW.1.cell 1; simp only [List.getElem?_toArray, List.getElem?_cons_zero, List.getElem?_cons_succ] at j0 j1; have hl := maplen (T := 77) Tryz.underlying77 hW.2.2; clear hW; go_simp; try with_reducible rfl) ?_
  refine wpS_take HS (by kernel_rfl) (by intro W hW; have j0 := hW.1.cell 0; have j1 := hW.1.cell 1; simp only [List.getElem?_toArray, List.getElem?_cons_zero, List.getElem?_cons_succ] at j0 j1; have hl := maplen (T := 77) Tryz.underlying77 hW.2.2; clear hW; go_simp; try with_reducible rfl) ?_
  refine wpS_take HS (by kernel_rfl) (by intro W hW; have j0 := hW.1.cell 0; have j1 := hW.1.cell 1; simp only [List.getElem?_toArray, List.getElem?_cons_zero, List.getElem?_cons_succ] at j0 j1; have hl := maplen (T := 77) Tryz.underlying77 hW.2.2; clear hW; go_simp; try with_reducible rfl) ?_
  refine wpS_take HS (by kernel_rfl) (by intro W hW; have j0 := hW.1.cell 0; have j1 := hW.1.cell 1; simp only [List.getElem?_toArray, List.getElem?_cons_zero, List.getElem?_cons_succ] at j0 j1; have hl := maplen (T := 77) Tryz.underlying77 hW.2.2; clear hW; go_simp; try with_reducible rfl) ?_
  refine wpS_take HS (by kernel_rfl) (by intro W hW; have j0 := hW.1.cell 0; have j1 := hW.1.cell 1; simp only [List.getElem?_toArray, List.getElem?_cons_zero, List.getElem?_cons_succ] at j0 j1; have hl := maplen (T := 77) Tryz.underlying77 hW.2.2; clear hW; go_simp; try with_reducible rfl) ?_
  refine wpS_take HS (by kernel_rfl) (by intro W hW; have j0 := hW.1.cell 0; have j1 := hW.1.cell 1; simp only [List.getElem?_toArray, List.getElem?_cons_zero, List.getElem?_cons_succ] at j0 j1; have hl := maplen (T := 77) Tryz.underlying77 hW.2.2; clear hW; go_simp; try with_reducible rfl) ?_
  refine wpS_take HS (by kernel_rfl) (by intro W hW; have j0 := hW.1.cell 0; have j1 := hW.1.cell 1; simp only [List.getElem?_toArray, List.getElem?_cons_zero, List.getElem?_cons_succ] at j0 j1; have hl := maplen (T := 77) Tryz.underlying77 hW.2.2; clear hW; go_simp; try with_reducible rfl) ?_
  refine wpS_take HS (by kernel_rfl) (by intro W hW; have j0 := hW.1.cell 0; have j1 := hW.1.cell 1; simp only [List.getElem?_toArray, List.getElem?_cons_zero, List.getElem?_cons_succ] at j0 j1; have hl := maplen (T := 77) Tryz.underlying77 hW.2.2; clear hW; go_simp; try with_reducible rfl) ?_
  refine wpS_take HS (by kernel_rfl) (by intro W hW; have j0 := hW.1.cell 0; have j1 := hW.1.cell 1; simp only [List.getElem?_toArray, List.getElem?_cons_zero, List.getElem?_cons_succ] at j0 j1; clear hW; go_simp; try with_reducible rfl) ?_
  refine wpS_nil ?_
  go_simp
  go_wp2
  go_ret
  exact ⟨rfl, HB6.out⟩
/-- What Get answers of a key that is there. -/
def GetAt (w w' : World) (x : OneE) (now : Int) (e : Ending) : Prop := ∃ s' : SE, e = .returned (.tuple #[s'.v, .bool true]) ∧ s'.h = x.headAt now ∧ s'.ok w.heap.size w' ∧ s'.B = x.s.B ∧ s'.n = x.s.n ∧ Below w.heap.size w w'
set_option maxRecDepth 100000 in
set_option maxHeartbeats 8000000 in
theorem stget_any (w : World) (g bm : Nat) (most : Int) (f : Ky3 → Option OneE) (n : Nat) (q : StF w g bm most f n) (k : Ky3) (now : Int) (hn : 0 ≤ now ∧ now ≤ 9223372036854775807) :
    Calls Tryz.prog 14 #[.pointer (some ⟨g, 0, none⟩), .int .i64 now, keyV k] w fun e w' =>
      (∀ x, f k = some x → GetAt w w' x now e) ∧ (f k = none → e = .returned (.tuple #[zeroSt, .bool false]) ∧ Below w.heap.size w w') := by
  obtain ⟨k1, k2, k3⟩ := k
  have hb0 : Below w.heap.size w ((w.alloc (.cells #[.int .u8 k1, .int .u32 k2, .int .u32 k3] 68)).alloc (.cells #[.int .u16 0, .int .u8 0, .int .u8 0, .int .u32 0, .int .u32 0, .int .i32 0, .int .u16 0, .int .u16 0, .slice none 0 0] 61)) := below_two _ _ _
  have HQ0 := Lib.hid q
  have HQ := Lib.hid (q.later hb0)
  have HK0 : Hid (Blk ((w.alloc (.cells #[.int .u8 k1, .int .u32 k2, .int .u32 k3] 68)).alloc (.cells #[.int .u16 0, .int .u8 0, .int .u8 0, .int .u32 0, .int .u32 0, .int .i32 0, .int .u16 0, .int .u16 0, .slice none 0 0] 61)) w.heap.size 68 #[.int .u8 k1, .int .u32 k2, .int .u32 k3]) := Lib.hid ((Blk.new _ _ _).alloc _)
  have HR0 : Hid (Blk ((w.alloc (.cells #[.int .u8 k1, .int .u32 k2, .int .u32 k3] 68)).alloc (.cells #[.int .u16 0, .int .u8 0, .int .u8 0, .int .u32 0, .int .u32 0, .int .i32 0, .int .u16 0, .int .u16 0, .slice none 0 0] 61)) (w.heap.size + 1) 61 #[.int .u16 0, .int .u8 0, .int .u8 0, .int .u32 0, .int .u32 0, .int .i32 0, .int .u16 0, .int .u16 0, .slice none 0 0]) := Lib.hid (new_at _ _ _)
  have HB0 := Lib.hid hb0
  have HN := Lib.hid (stnone_any _ g bm (show ((w.alloc (.cells #[.int .u8 k1, .int .u32 k2, .int .u32 k3] 68)).alloc (.cells #[.int .u16 0, .int .u8 0, .int .u8 0, .int .u32 0, .int .u32 0, .int .i32 0, .int .u16 0, .int .u16 0, .slice none 0 0] 61)).cell? ⟨g, 0, none⟩ = some (.map (some bm)) from HQ.out.blk.cell 0))
  obtain ⟨x, b, hx, hxb⟩ := lookS f (k1, k2, k3)
  obtain ⟨⟨⟨yage, yopts, ytyp, yid, yadv, yseq, ysum, ylen⟩, yA, yn, yc, yB⟩, yat⟩ := x
  have HLK := Lib.hid hx
  have HXB := Lib.hid hxb
  have dn : decide (now < 0) = false := decide_eq_false (by omega)
  clear q hb0 hx hxb
  go_enter Tryz.func14, Tryz.ntmps14
  go_wp2_with (go_at_call 28; refine HN.out.mono ?_; rintro e w' ⟨rfl, rfl⟩)
  clear HN dn
  generalize (w.alloc (.cells #[.int .u8 k1, .int .u32 k2, .int .u32 k3] 68)).alloc (.cells #[.int .u16 0, .int .u8 0, .int .u8 0, .int .u32 0, .int .u32 0, .int .i32 0, .int .u16 0, .int .u16 0, .slice none 0 0] 61) = w1 at *
  generalize hgk : w.heap.size = gk at *
  refine wp_region_s (fun W : World => Blk W g 79 #[.map (some bm), .int .i64 most] ∧ Blk W gk 68 #[.int .u8 k1, .int .u32 k2, .int .u32 k3] ∧ MapF keyV W bm (fun k => (f k).map OneE.v) n) [(0, true), (1, true), (2, true), (3, true), (4, true), (5, true), (6, true), (7, true), (8, true), (9, false), (10, false), (11, true)] (by kernel_rfl) (fun _ d _ _ _ h => by cases d <;> exact h) ?_
  simp only [List.map_cons, List.map_nil, nthOp_zero, nthOp_succ]
  have HS : Hid ((fun W : World => Blk W g 79 #[.map (some bm), .int .i64 most] ∧ Blk W gk 68 #[.int .u8 k1, .int .u32 k2, .int .u32 k3] ∧ MapF keyV W bm (fun k => (f k).map OneE.v) n) w1.drew) := Lib.hid ⟨(HQ.out.later (Below.refl _ _).drew).blk, HK0.out.later (Below.refl _ _).drew, (HQ.out.later (Below.refl _ _).drew).map⟩
  have hbd : Below w1.heap.size w1 w1.drew := (Below.refl _ _).drew
  have HBD := Lib.hid hbd
  clear hbd
  generalize hwd : w1.drew = w2 at *
  clear hwd
  refine wpS_take HS (by kernel_rfl) (by intro W hW; have j0 := hW.1.cell 0; have j1 := hW.1.cell 1; simp only [List.getElem?_toArray, List.getElem?_cons_zero, List.getElem?_cons_succ] at j0 j1; clear hW; go_simp; try with_reducible rfl) ?_
  refine wpS_take HS (by kernel_rfl) (by intro W hW; have j0 := hW.1.cell 0; have j1 := hW.1.cell 1; simp only [List.getElem?_toArray, List.getElem?_cons_zero, List.getElem?_cons_succ] at j0 j1; clear hW; go_simp; try with_reducible rfl) ?_
  refine wpS_take HS (by kernel_rfl) (by intro W hW; have j0 := hW.1.cell 0; have j1 := hW.1.cell 1; simp only [List.getElem?_toArray, List.getElem?_cons_zero, List.getElem?_cons_succ] at j0 j1; clear hW; go_simp; try with_reducible rfl) ?_
  refine wpS_take HS (by kernel_rfl) (by intro W hW; have j0 := hW.1.cell 0; have j1 := hW.1.cell 1; simp only [List.getElem?_toArray, List.getElem?_cons_zero, List.getElem?_cons_succ] at j0 j1; clear hW; go_simp; try with_reducible rfl) ?_
  refine wpS_take HS (by kernel_rfl) (fun W hW => exec_load_row rfl rfl hW.2.1 Tryz.underlying68 rfl info_key3) ?_
  refine wpS_take HS (by kernel_rfl) (fun W hW => exec_lookupF (a := (k1, k2, k3)) keyT Tryz.underlying77 zeroOne rfl hW.2.2 rfl rfl) ?_
  simp only [HLK.out]
  refine wpS_take HS (by kernel_rfl) (by intro W hW; have j0 := hW.1.cell 0; have j1 := hW.1.cell 1; simp only [List.getElem?_toArray, List.getElem?_cons_zero, List.getElem?_cons_succ] at j0 j1; clear hW; go_simp; try with_reducible rfl) ?_
  refine wpS_take HS (by kernel_rfl) (by intro W hW; have j0 := hW.1.cell 0; have j1 := hW.1.cell 1; simp only [List.getElem?_toArray, List.getElem?_cons_zero, List.getElem?_cons_succ] at j0 j1; clear hW; go_simp; try with_reducible rfl) ?_
  refine wpS_take HS (by kernel_rfl) (by intro W hW; have j0 := hW.1.cell 0; have j1 := hW.1.cell 1; simp only [List.getElem?_toArray, List.getElem?_cons_zero, List.getElem?_cons_succ] at j0 j1; clear hW; go_simp; try with_reducible rfl) ?_
  refine wpS_do fun K hK => ?_
  go_wp2
  have hba : Below w2.heap.size w2 (w2.alloc (.cells #[.int .u16 0, .int .u8 0, .int .u8 0, .int .u32 0, .int .u32 0, .int .i32 0, .int .u16 0, .int .u16 0, .slice none 0 0, .int .i64 0] 98)) := (Below.refl _ _).alloc (Nat.le_refl _) _
  refine hK.out _ _ ⟨HS.out.1.later hba, HS.out.2.1.later hba, HS.out.2.2.later hba⟩ ?_
  clear hK K hba
  refine wpS_do fun K hK => ?_
  go_wp2_with (go_must (refine wpList_store_row rfl 98 _ _ rfl w2.heap.size #[.int .u16 yage, .int .u8 yopts, .int .u8 ytyp, .int .u32 yid, .int .u32 yadv, .int .i32 yseq, .int .u16 ysum, .int .u16 ylen, .slice yA yn yc, .int .i64 yat] rfl rfl 98 _ (heap_alloc_new w2 _) info_one rfl (by simp [Value.oneCell']) ?_; rw [World.setRow_alloc_new]))
  have hb1 : Below w2.heap.size w2 (w2.alloc (.cells #[.int .u16 yage, .int .u8 yopts, .int .u8 ytyp, .int .u32 yid, .int .u32 yadv, .int .i32 yseq, .int .u16 ysum, .int .u16 ylen, .slice yA yn yc, .int .i64 yat] 98)) := (Below.refl _ _).alloc (Nat.le_refl _) _
  have HX : Hid (Blk (w2.alloc (.cells #[.int .u16 yage, .int .u8 yopts, .int .u8 ytyp, .int .u32 yid, .int .u32 yadv, .int .i32 yseq, .int .u16 ysum, .int .u16 ylen, .slice yA yn yc, .int .i64 yat] 98)) w2.heap.size 98 #[.int .u16 yage, .int .u8 yopts, .int .u8 ytyp, .int .u32 yid, .int .u32 yadv, .int .i32 yseq, .int .u16 ysum, .int .u16 ylen, .slice yA yn yc, .int .i64 yat]) := Lib.hid (Blk.new _ _ _)
  replace HS : Hid ((fun W : World => Blk W g 79 #[.map (some bm), .int .i64 most] ∧ Blk W gk 68 #[.int .u8 k1, .int .u32 k2, .int .u32 k3] ∧ MapF keyV W bm (fun k => (f k).map OneE.v) n) (w2.alloc (.cells #[.int .u16 yage, .int .u8 yopts, .int .u8 ytyp, .int .u32 yid, .int .u32 yadv, .int .i32 yseq, .int .u16 ysum, .int .u16 ylen, .slice yA yn yc, .int .i64 yat] 98))) := Lib.hid ⟨HS.out.1.later hb1, HS.out.2.1.later hb1, HS.out.2.2.later hb1⟩
  have HB1 := Lib.hid hb1
  clear hb1
  refine hK.out _ _ HS.out ?_
  clear hK K
  generalize hg1 : w2.alloc (.cells #[.int .u16 yage, .int .u8 yopts, .int .u8 ytyp, .int .u32 yid, .int .u32 yadv, .int .i32 yseq, .int .u16 ysum, .int .u16 ylen, .slice yA yn yc, .int .i64 yat] 98) = w3 at *
  clear hg1
  generalize hgx : w2.heap.size = gx at *
  refine wpS_take HS (by kernel_rfl) (by intro W hW; have j0 := hW.1.cell 0; have j1 := hW.1.cell 1; simp only [List.getElem?_toArray, List.getElem?_cons_zero, List.getElem?_cons_succ] at j0 j1; clear hW; go_simp; try with_reducible rfl) ?_
  refine wpS_nil ?_
  go_simp
  rw [← hgk] at HB0 HK0 HR0
  replace HR0 := Lib.hid ((HR0.out.later HBD.out).later (hgx ▸ HB1.out))
  have HB3 : Hid (Below w.heap.size w w3) := Lib.hid (below_then (below_then HB0.out HBD.out) (hgx ▸ HB1.out))
  have hgx3 : gx ≠ w.heap.size + 1 := fun e => by have h1 : some (Obj.cells #[.int .u16 yage, .int .u8 yopts, .int .u8 ytyp, .int .u32 yid, .int .u32 yadv, .int .i32 yseq, .int .u16 ysum, .int .u16 ylen, .slice yA yn yc, .int .i64 yat] 98) = some (Obj.cells #[.int .u16 0, .int .u8 0, .int .u8 0, .int .u32 0, .int .u32 0, .int .i32 0, .int .u16 0, .int .u16 0, .slice none 0 0] 61) := HX.out.symm.trans (by rw [e]; exact HR0.out); injection h1 with h1; injection h1 with h1 h2; exact absurd h2 (by decide)
  clear HBD HB1 HB0 HLK hgx
  rw [← hgk]
  clear hgk
  cases b with
  | false =>
    go_wp2_with (refine wpList_store_row rfl 61 _ _ rfl (w.heap.size + 1) #[.int .u16 0, .int .u8 0, .int .u8 0, .int .u32 0, .int .u32 0, .int .i32 0, .int .u16 0, .int .u16 0, .slice none 0 0] rfl rfl 61 _ HR0.out info_state rfl (by simp [Value.oneCell']) ?_)
    refine bodyPost_ret (results_cell_row_tmp rfl _ _ (w.heap.size + 1) 61 #[.int .u16 0, .int .u8 0, .int .u8 0, .int .u32 0, .int .u32 0, .int .i32 0, .int .u16 0, .int .u16 0, .slice none 0 0] (0, 0) _ rfl (HR0.out.setRow _) Tryz.underlying61 rfl info_state) rfl ?_
    rcases HXB.out with ⟨h, hb⟩ | ⟨h, _, h2⟩
    · cases hb
    · exact ⟨fun x hx => (by rw [h] at hx; cases hx), fun _ => ⟨rfl, below_setRow HB3.out (by omega) _⟩⟩
  | true =>
    have hfk : f (k1, k2, k3) = some (⟨⟨⟨yage, yopts, ytyp, yid, yadv, yseq, ysum, ylen⟩, yA, yn, yc, yB⟩, yat⟩ : OneE) := by
      rcases HXB.out with ⟨h, _⟩ | ⟨h, hb, _⟩
      · exact h
      · cases hb
    have hg := (HQ0.out.later HB3.out).good _ _ hfk
    have HG := Lib.hid hg
    have HF := Lib.hid hfk
    clear hg hfk HXB HQ HQ0 HS HK0
    have hcall := then_any (⟨⟨⟨yage, yopts, ytyp, yid, yadv, yseq, ysum, ylen⟩, yA, yn, yc, yB⟩, yat⟩ : OneE) now w3 HG.out.2.1 HG.out.2.2 hn
    have HC := Lib.hid hcall
    clear hcall
    go_wp2_with (first
      | (go_at_call 62; refine HC.out.mono ?_; rintro e w4 ⟨s', rfl, h1, h2, h3, h4, h5⟩; obtain ⟨⟨sage, sopts, styp, sid, sadv, sseq, ssum, slen⟩, sA, sn, sc, sB⟩ := s'; have HT := Lib.hid (And.intro h1 (And.intro h2 (And.intro h3 (And.intro h4 h5)))); have HR4 := Lib.hid (HR0.out.later h5); clear h1 h2 h3 h4 h5)
      | (refine wpList_load_row rfl 98 _ rfl gx rfl 98 #[.int .u16 yage, .int .u8 yopts, .int .u8 ytyp, .int .u32 yid, .int .u32 yadv, .int .i32 yseq, .int .u16 ysum, .int .u16 ylen, .slice yA yn yc, .int .i64 yat] (0, 0) _ HX.out Tryz.underlying98 rfl info_one ?_)
      | (refine wpList_store_row rfl 61 _ _ rfl (w.heap.size + 1) #[.int .u16 sage, .int .u8 sopts, .int .u8 styp, .int .u32 sid, .int .u32 sadv, .int .i32 sseq, .int .u16 ssum, .int .u16 slen, .slice sA sn sc] rfl rfl 61 _ HR4.out info_state rfl (by simp [Value.oneCell']) ?_))
    refine bodyPost_ret (results_cell_row_tmp rfl _ _ (w.heap.size + 1) 61 #[.int .u16 sage, .int .u8 sopts, .int .u8 styp, .int .u32 sid, .int .u32 sadv, .int .i32 sseq, .int .u16 ssum, .int .u16 slen, .slice sA sn sc] (0, 0) _ rfl (HR4.out.setRow _) Tryz.underlying61 rfl info_state) rfl ?_
    refine ⟨fun x hx => ?_, fun hx => (by rw [HF.out] at hx; cases hx)⟩
    have hxe : x = (⟨⟨⟨yage, yopts, ytyp, yid, yadv, yseq, ysum, ylen⟩, yA, yn, yc, yB⟩, yat⟩ : OneE) := by have := hx.symm.trans HF.out; injection this
    subst hxe
    have hsz := HB3.out.size
    refine ⟨⟨⟨sage, sopts, styp, sid, sadv, sseq, ssum, slen⟩, sA, sn, sc, sB⟩, rfl, HT.out.1, ?_, HT.out.2.2.1, HT.out.2.2.2.1, below_setRow (below_then HB3.out HT.out.2.2.2.2) (by omega) _⟩
    have h := HT.out.2.1.mono hsz
    exact ⟨h.head, own_row h.body HR4.out (by decide) _, h.oct, h.len⟩
/-- No store: the pointer that none says true of. -/
def NoSt (sp : Option Addr) (w : World) : Prop := ∀ W : World, Below w.heap.size w W → Calls Tryz.prog 28 #[.pointer sp] W fun e w' => e = .returned (.bool true) ∧ W = w'
theorem NoSt.later {sp : Option Addr} {w w' : World} (h : NoSt sp w) (hb : Below w.heap.size w w') : NoSt sp w' := fun W hW => h W (below_then hb hW)
theorem noSt_nil (w : World) : NoSt none w := by
  intro W _
  go_enter Tryz.func28, Tryz.ntmps28
  go_wp2
  go_ret
  exact ⟨rfl, rfl⟩
theorem noSt_zero (w : World) (g : Nat) (hc : w.cell? ⟨g, 0, none⟩ = some (.map none)) : NoSt (some ⟨g, 0, none⟩) w := by
  intro W hW
  have h0 : W.cell? ⟨g, 0, none⟩ = some (.map none) := (hW.cell (p := ⟨g, 0, none⟩) (cell_lt hc)).trans hc
  have hE := fun V : World => run_eql_map_nil (P := Tryz.prog) V 77 68 98 none Tryz.underlying77
  simp only [Option.isNone_none] at hE
  go_enter Tryz.func28, Tryz.ntmps28
  go_wp2
  go_ret
  exact ⟨rfl, rfl⟩
theorem eachAt_no {sp : Option Addr} {now : Int} {w : World} (h : NoSt sp w) : EachAt (.pointer sp) now (fun _ => none) 0 w := eachAt_none h
theorem stlen_no (sp : Option Addr) (w : World) (h : NoSt sp w) : Calls Tryz.prog 9 #[.pointer sp] w fun e w' => e = .returned (.int .i64 0) ∧ w = w' := by
  have HN := Lib.hid (h w (Below.refl _ _))
  clear h
  go_enter Tryz.func9, Tryz.ntmps9
  go_wp2_with (go_at_call 28; refine HN.out.mono ?_; rintro e w' ⟨rfl, rfl⟩)
  go_ret
  exact ⟨rfl, rfl⟩
theorem stdrop_no (sp : Option Addr) (w : World) (h : NoSt sp w) (k : Ky3) : Calls Tryz.prog 22 #[.pointer sp, keyV k] w fun e w' => e = .returned (.bool false) ∧ Below w.heap.size w w' := by
  obtain ⟨k1, k2, k3⟩ := k
  have hb : Below w.heap.size w (w.alloc (.cells #[.int .u8 k1, .int .u32 k2, .int .u32 k3] 68)) := (Below.refl _ _).alloc (Nat.le_refl _) _
  have HN := Lib.hid (h _ hb)
  have HB := Lib.hid hb
  clear h hb
  go_enter Tryz.func22, Tryz.ntmps22
  go_wp2_with (go_at_call 28; refine HN.out.mono ?_; rintro e w' ⟨rfl, rfl⟩)
  go_ret
  exact ⟨rfl, HB.out⟩
theorem stwhen_no (sp : Option Addr) (w : World) (h : NoSt sp w) (k : Ky3) : Calls Tryz.prog 26 #[.pointer sp, keyV k] w fun e w' => e = .returned (.tuple #[.int .i64 0, .bool false]) ∧ Below w.heap.size w w' := by
  obtain ⟨k1, k2, k3⟩ := k
  have hb : Below w.heap.size w (w.alloc (.cells #[.int .u8 k1, .int .u32 k2, .int .u32 k3] 68)) := (Below.refl _ _).alloc (Nat.le_refl _) _
  have HN := Lib.hid (h _ hb)
  have HB := Lib.hid hb
  clear h hb
  go_enter Tryz.func26, Tryz.ntmps26
  go_wp2_with (go_at_call 28; refine HN.out.mono ?_; rintro e w' ⟨rfl, rfl⟩)
  go_ret2
  exact ⟨rfl, HB.out⟩
theorem stget_no (sp : Option Addr) (w : World) (h : NoSt sp w) (k : Ky3) (now : Int) : Calls Tryz.prog 14 #[.pointer sp, .int .i64 now, keyV k] w fun e w' => e = .returned (.tuple #[zeroSt, .bool false]) ∧ Below w.heap.size w w' := by
  obtain ⟨k1, k2, k3⟩ := k
  have hb : Below w.heap.size w ((w.alloc (.cells #[.int .u8 k1, .int .u32 k2, .int .u32 k3] 68)).alloc (.cells #[.int .u16 0, .int .u8 0, .int .u8 0, .int .u32 0, .int .u32 0, .int .i32 0, .int .u16 0, .int .u16 0, .slice none 0 0] 61)) := below_two _ _ _
  have HR0 : Hid (Blk ((w.alloc (.cells #[.int .u8 k1, .int .u32 k2, .int .u32 k3] 68)).alloc (.cells #[.int .u16 0, .int .u8 0, .int .u8 0, .int .u32 0, .int .u32 0, .int .i32 0, .int .u16 0, .int .u16 0, .slice none 0 0] 61)) (w.heap.size + 1) 61 #[.int .u16 0, .int .u8 0, .int .u8 0, .int .u32 0, .int .u32 0, .int .i32 0, .int .u16 0, .int .u16 0, .slice none 0 0]) := Lib.hid (new_at _ _ _)
  have HN := Lib.hid (h _ hb)
  have HB := Lib.hid hb
  clear h hb
  go_enter Tryz.func14, Tryz.ntmps14
  go_wp2_with (first
    | (go_at_call 28; refine HN.out.mono ?_; rintro e w' ⟨rfl, rfl⟩)
    | (refine wpList_store_row rfl 61 _ _ rfl (w.heap.size + 1) #[.int .u16 0, .int .u8 0, .int .u8 0, .int .u32 0, .int .u32 0, .int .i32 0, .int .u16 0, .int .u16 0, .slice none 0 0] rfl rfl 61 _ HR0.out info_state rfl (by simp [Value.oneCell']) ?_))
  refine bodyPost_ret (results_cell_row_tmp rfl _ _ (w.heap.size + 1) 61 #[.int .u16 0, .int .u8 0, .int .u8 0, .int .u32 0, .int .u32 0, .int .i32 0, .int .u16 0, .int .u16 0, .slice none 0 0] (0, 0) _ rfl (HR0.out.setRow _) Tryz.underlying61 rfl info_state) rfl ?_
  exact ⟨rfl, below_setRow HB.out (by omega) _⟩
theorem stput_no (sp : Option Addr) (w : World) (h : NoSt sp w) (x : SE) (now : Int) : Calls Tryz.prog 13 #[.pointer sp, .int .i64 now, x.v] w fun e w' => e = .returned (.int .i64 1) ∧ Below w.heap.size w w' := by
  obtain ⟨⟨xage, xopts, k1, k2, k3, xseq, xsum, xlen⟩, xA, xn, xc, xB⟩ := x
  have hb : Below w.heap.size w (w.alloc (.cells #[.int .u16 xage, .int .u8 xopts, .int .u8 k1, .int .u32 k2, .int .u32 k3, .int .i32 xseq, .int .u16 xsum, .int .u16 xlen, .slice xA xn xc] 61)) := (Below.refl _ _).alloc (Nat.le_refl _) _
  have HN := Lib.hid (h _ hb)
  have HB := Lib.hid hb
  clear h hb
  go_enter Tryz.func13, Tryz.ntmps13
  go_wp2_with (go_at_call 28; refine HN.out.mono ?_; rintro e w' ⟨rfl, rfl⟩)
  go_ret
  exact ⟨rfl, HB.out⟩
end Go.Proofs.YtpncbggjngamgaaGreatDoor
namespace Go.Proofs.YtpncbggjngamgaaGreatDoor
set_option linter.unusedVariables false
open Go.RowKit

set_option maxRecDepth 100000 in
set_option maxHeartbeats 4000000 in
theorem copied11 (s : SE) (w : World) (hs : s.rd w) : Calls Tryz.prog 67 #[s.v] w fun e w' => ∃ s', e = .returned s'.v ∧ CopyOf w w' s s' ∧ Below w.heap.size w w' := by
  obtain ⟨h, A, n, c, B⟩ := s
  have Hok := Lib.hid hs
  have hx2 : Blk ((w.alloc (.cells #[.int .u16 h.age, .int .u8 h.opts, .int .u8 h.typ, .int .u32 h.id, .int .u32 h.adv, .int .i32 h.seq, .int .u16 h.sum, .int .u16 h.len, .slice A n c] 61)).alloc (.cells #[.int .u16 0, .int .u8 0, .int .u8 0, .int .u32 0, .int .u32 0, .int .i32 0, .int .u16 0, .int .u16 0, .slice none 0 0] 61)) w.heap.size 61 #[.int .u16 h.age, .int .u8 h.opts, .int .u8 h.typ, .int .u32 h.id, .int .u32 h.adv, .int .i32 h.seq, .int .u16 h.sum, .int .u16 h.len, .slice A n c] := (Blk.new _ _ _).alloc _
  have h3 := three_blks w (.cells #[.int .u16 h.age, .int .u8 h.opts, .int .u8 h.typ, .int .u32 h.id, .int .u32 h.adv, .int .i32 h.seq, .int .u16 h.sum, .int .u16 h.len, .slice A n c] 61) (.cells #[.int .u16 0, .int .u8 0, .int .u8 0, .int .u32 0, .int .u32 0, .int .i32 0, .int .u16 0, .int .u16 0, .slice none 0 0] 61) (.cells #[.int .u16 h.age, .int .u8 h.opts, .int .u8 h.typ, .int .u32 h.id, .int .u32 h.adv, .int .i32 h.seq, .int .u16 h.sum, .int .u16 h.len, .slice none 0 0] 61)
  have HX : Hid (Blk (((w.alloc (.cells #[.int .u16 h.age, .int .u8 h.opts, .int .u8 h.typ, .int .u32 h.id, .int .u32 h.adv, .int .i32 h.seq, .int .u16 h.sum, .int .u16 h.len, .slice A n c] 61)).alloc (.cells #[.int .u16 0, .int .u8 0, .int .u8 0, .int .u32 0, .int .u32 0, .int .i32 0, .int .u16 0, .int .u16 0, .slice none 0 0] 61)).alloc (.cells #[.int .u16 h.age, .int .u8 h.opts, .int .u8 h.typ, .int .u32 h.id, .int .u32 h.adv, .int .i32 h.seq, .int .u16 h.sum, .int .u16 h.len, .slice none 0 0] 61)) w.heap.size 61 #[.int .u16 h.age, .int .u8 h.opts, .int .u8 h.typ, .int .u32 h.id, .int .u32 h.adv, .int .i32 h.seq, .int .u16 h.sum, .int .u16 h.len, .slice A n c] ∧ Blk (((w.alloc (.cells #[.int .u16 h.age, .int .u8 h.opts, .int .u8 h.typ, .int .u32 h.id, .int .u32 h.adv, .int .i32 h.seq, .int .u16 h.sum, .int .u16 h.len, .slice A n c] 61)).alloc (.cells #[.int .u16 0, .int .u8 0, .int .u8 0, .int .u32 0, .int .u32 0, .int .i32 0, .int .u16 0, .int .u16 0, .slice none 0 0] 61)).alloc (.cells #[.int .u16 h.age, .int .u8 h.opts, .int .u8 h.typ, .int .u32 h.id, .int .u32 h.adv, .int .i32 h.seq, .int .u16 h.sum, .int .u16 h.len, .slice none 0 0] 61)) (w.heap.size + 1) 61 #[.int .u16 0, .int .u8 0, .int .u8 0, .int .u32 0, .int .u32 0, .int .i32 0, .int .u16 0, .int .u16 0, .slice none 0 0] ∧ Blk (((w.alloc (.cells #[.int .u16 h.age, .int .u8 h.opts, .int .u8 h.typ, .int .u32 h.id, .int .u32 h.adv, .int .i32 h.seq, .int .u16 h.sum, .int .u16 h.len, .slice A n c] 61)).alloc (.cells #[.int .u16 0, .int .u8 0, .int .u8 0, .int .u32 0, .int .u32 0, .int .i32 0, .int .u16 0, .int .u16 0, .slice none 0 0] 61)).alloc (.cells #[.int .u16 h.age, .int .u8 h.opts, .int .u8 h.typ, .int .u32 h.id, .int .u32 h.adv, .int .i32 h.seq, .int .u16 h.sum, .int .u16 h.len, .slice none 0 0] 61)) (w.heap.size + 1 + 1) 61 #[.int .u16 h.age, .int .u8 h.opts, .int .u8 h.typ, .int .u32 h.id, .int .u32 h.adv, .int .i32 h.seq, .int .u16 h.sum, .int .u16 h.len, .slice none 0 0]) := Lib.hid ⟨h3.1, h3.2.1, h3.2.2.1⟩
  have HB : Hid (Below w.heap.size w (((w.alloc (.cells #[.int .u16 h.age, .int .u8 h.opts, .int .u8 h.typ, .int .u32 h.id, .int .u32 h.adv, .int .i32 h.seq, .int .u16 h.sum, .int .u16 h.len, .slice A n c] 61)).alloc (.cells #[.int .u16 0, .int .u8 0, .int .u8 0, .int .u32 0, .int .u32 0, .int .i32 0, .int .u16 0, .int .u16 0, .slice none 0 0] 61)).alloc (.cells #[.int .u16 h.age, .int .u8 h.opts, .int .u8 h.typ, .int .u32 h.id, .int .u32 h.adv, .int .i32 h.seq, .int .u16 h.sum, .int .u16 h.len, .slice none 0 0] 61))) := Lib.hid h3.2.2.2
  have a0 := hx2.cell 0; have a1 := hx2.cell 1; have a2 := hx2.cell 2; have a3 := hx2.cell 3; have a4 := hx2.cell 4; have a5 := hx2.cell 5; have a6 := hx2.cell 6; have a7 := hx2.cell 7
  have x8 := HX.out.1.cell 8
  have o8 := HX.out.2.2.cell 8
  simp only [List.getElem?_toArray, List.getElem?_cons_zero, List.getElem?_cons_succ] at a0 a1 a2 a3 a4 a5 a6 a7 x8 o8
  have HR : Hid (Reads (((w.alloc (.cells #[.int .u16 h.age, .int .u8 h.opts, .int .u8 h.typ, .int .u32 h.id, .int .u32 h.adv, .int .i32 h.seq, .int .u16 h.sum, .int .u16 h.len, .slice A n c] 61)).alloc (.cells #[.int .u16 0, .int .u8 0, .int .u8 0, .int .u32 0, .int .u32 0, .int .i32 0, .int .u16 0, .int .u16 0, .slice none 0 0] 61)).alloc (.cells #[.int .u16 h.age, .int .u8 h.opts, .int .u8 h.typ, .int .u32 h.id, .int .u32 h.adv, .int .i32 h.seq, .int .u16 h.sum, .int .u16 h.len, .slice none 0 0] 61)) ((((w.alloc (.cells #[.int .u16 h.age, .int .u8 h.opts, .int .u8 h.typ, .int .u32 h.id, .int .u32 h.adv, .int .i32 h.seq, .int .u16 h.sum, .int .u16 h.len, .slice A n c] 61)).alloc (.cells #[.int .u16 0, .int .u8 0, .int .u8 0, .int .u32 0, .int .u32 0, .int .i32 0, .int .u16 0, .int .u16 0, .slice none 0 0] 61)).alloc (.cells #[.int .u16 h.age, .int .u8 h.opts, .int .u8 h.typ, .int .u32 h.id, .int .u32 h.adv, .int .i32 h.seq, .int .u16 h.sum, .int .u16 h.len, .slice none 0 0] 61)).heap.size) 1 A n (u8s B)) := Lib.hid (Hok.out.body.later HB.out)
  have hn : n ≤ 1099511627776 := Hok.out.len
  have hl : Hid (B.length = n) := Lib.hid Hok.out.body.u8len
  clear hs hx2 h3
  show Calls Tryz.prog 67 #[stV h A n c] w fun e w' => ∃ s', e = .returned s'.v ∧ CopyOf w w' ⟨h, A, n, c, B⟩ s' ∧ Below w.heap.size w w'
  go_enter Tryz.func67, Tryz.ntmps67
  have hg2 : w.heap.size + 1 ≠ w.heap.size + 1 + 1 := by omega
  go_wp2_with (first
    | (at_builtin; go_must (refine wpList_app el_u8 rfl (.tmp 8) (.tmp 10) rfl (World.ownsRow_nil (((w.alloc (.cells #[.int .u16 h.age, .int .u8 h.opts, .int .u8 h.typ, .int .u32 h.id, .int .u32 h.adv, .int .i32 h.seq, .int .u16 h.sum, .int .u16 h.len, .slice A n c] 61)).alloc (.cells #[.int .u16 0, .int .u8 0, .int .u8 0, .int .u32 0, .int .u32 0, .int .i32 0, .int .u16 0, .int .u16 0, .slice none 0 0] 61)).alloc (.cells #[.int .u16 h.age, .int .u8 h.opts, .int .u8 h.typ, .int .u32 h.id, .int .u32 h.adv, .int .i32 h.seq, .int .u16 h.sum, .int .u16 h.len, .slice none 0 0] 61)) ((((w.alloc (.cells #[.int .u16 h.age, .int .u8 h.opts, .int .u8 h.typ, .int .u32 h.id, .int .u32 h.adv, .int .i32 h.seq, .int .u16 h.sum, .int .u16 h.len, .slice A n c] 61)).alloc (.cells #[.int .u16 0, .int .u8 0, .int .u8 0, .int .u32 0, .int .u32 0, .int .i32 0, .int .u16 0, .int .u16 0, .slice none 0 0] 61)).alloc (.cells #[.int .u16 h.age, .int .u8 h.opts, .int .u8 h.typ, .int .u32 h.id, .int .u32 h.adv, .int .i32 h.seq, .int .u16 h.sum, .int .u16 h.len, .slice none 0 0] 61)).heap.size) 5 1) rfl HR.out rfl u8s_one (by simp only [maxLen]; omega) (by omega) (Nat.le_refl _) ?_); intro v w4 hown hb4 _ _; rw [Nat.zero_add, List.nil_append] at hown; obtain ⟨A7, c7, hv, -⟩ := own_shape hown; subst hv; have H4 := Lib.hid (And.intro hown hb4); have HX4 := Lib.hid (And.intro (HX.out.2.1.later hb4) (HX.out.2.2.later hb4)); clear hown hb4; have y0 := HX4.out.2.cell 0; have y1 := HX4.out.2.cell 1; have y2 := HX4.out.2.cell 2; have y3 := HX4.out.2.cell 3; have y4 := HX4.out.2.cell 4; have y5 := HX4.out.2.cell 5; have y6 := HX4.out.2.cell 6; have y7 := HX4.out.2.cell 7; have y8 := HX4.out.2.cell 8; have f8 := HX4.out.2.frozen 8; simp only [List.getElem?_toArray, List.getElem?_cons_zero, List.getElem?_cons_succ] at y0 y1 y2 y3 y4 y5 y6 y7 y8)
    | (refine wpList_store_row rfl 61 _ _ rfl (w.heap.size + 1) #[.int .u16 h.age, .int .u8 h.opts, .int .u8 h.typ, .int .u32 h.id, .int .u32 h.adv, .int .i32 h.seq, .int .u16 h.sum, .int .u16 h.len, .slice A7 n c7] rfl rfl 61 _ (HX4.out.1.far (by simp) _) info_state rfl (by simp [Value.oneCell']) ?_))
  refine bodyPost_ret (results_cell_row rfl _ _ (w.heap.size + 1) 61 #[.int .u16 h.age, .int .u8 h.opts, .int .u8 h.typ, .int .u32 h.id, .int .u32 h.adv, .int .i32 h.seq, .int .u16 h.sum, .int .u16 h.len, .slice A7 n c7] (0, 0) _ rfl ((HX4.out.1.far (by simp) _).setRow _) Tryz.underlying61 rfl info_state) rfl ?_
  have hb4 : Below w.heap.size w w4 := below_then HB.out H4.out.2
  have h1s := HX.out.2.1.lt
  have h2s := HX.out.2.2.lt
  refine ⟨⟨h, A7, n, c7, B⟩, rfl, ⟨rfl, rfl, rfl, ⟨Hok.out.head, ?_, Hok.out.oct, hn⟩⟩, ?_⟩
  · refine own_mono (own_row (own_cells H4.out.1 HX4.out.2 (by decide) 8 (.slice A7 n c7)) (HX4.out.1.far (by simp) _) (by decide) _) ?_
    have := HB.out.size
    omega
  · exact below_setRow (hb4.setCell (by simp; omega) _) (Nat.le_succ _) _
end Go.Proofs.YtpncbggjngamgaaGreatDoor
namespace Go.Proofs.YtpncbggjngamgaaGreatDoor
set_option linter.unusedVariables false
open Go.RowKit

set_option maxRecDepth 100000 in
set_option maxHeartbeats 4000000 in
theorem at11 (x : OneE) (now : Int) (w : World) (hx : x.s.rd w) (ha : 0 ≤ x.at_ ∧ x.at_ ≤ 9223372036854775807) (hn : 0 ≤ now ∧ now ≤ 9223372036854775807) :
    Calls Tryz.prog 71 #[x.v, .int .i64 now] w fun e w' => ThenAt w w' x now e := by
  obtain ⟨⟨⟨yage, yopts, ytyp, yid, yadv, yseq, ysum, ylen⟩, yA, yn, yc, yB⟩, yat⟩ := x
  simp only at ha
  have HX := Lib.hid hx
  have hb2 : Below w.heap.size w ((w.alloc (.cells #[.int .u16 yage, .int .u8 yopts, .int .u8 ytyp, .int .u32 yid, .int .u32 yadv, .int .i32 yseq, .int .u16 ysum, .int .u16 ylen, .slice yA yn yc, .int .i64 yat] 108)).alloc (.cells #[.int .u16 0, .int .u8 0, .int .u8 0, .int .u32 0, .int .u32 0, .int .i32 0, .int .u16 0, .int .u16 0, .slice none 0 0] 61)) := below_two _ _ _
  have H2 : Hid (Blk ((w.alloc (.cells #[.int .u16 yage, .int .u8 yopts, .int .u8 ytyp, .int .u32 yid, .int .u32 yadv, .int .i32 yseq, .int .u16 ysum, .int .u16 ylen, .slice yA yn yc, .int .i64 yat] 108)).alloc (.cells #[.int .u16 0, .int .u8 0, .int .u8 0, .int .u32 0, .int .u32 0, .int .i32 0, .int .u16 0, .int .u16 0, .slice none 0 0] 61)) w.heap.size 108 #[.int .u16 yage, .int .u8 yopts, .int .u8 ytyp, .int .u32 yid, .int .u32 yadv, .int .i32 yseq, .int .u16 ysum, .int .u16 ylen, .slice yA yn yc, .int .i64 yat] ∧ Blk ((w.alloc (.cells #[.int .u16 yage, .int .u8 yopts, .int .u8 ytyp, .int .u32 yid, .int .u32 yadv, .int .i32 yseq, .int .u16 ysum, .int .u16 ylen, .slice yA yn yc, .int .i64 yat] 108)).alloc (.cells #[.int .u16 0, .int .u8 0, .int .u8 0, .int .u32 0, .int .u32 0, .int .i32 0, .int .u16 0, .int .u16 0, .slice none 0 0] 61)) (w.heap.size + 1) 61 #[.int .u16 0, .int .u8 0, .int .u8 0, .int .u32 0, .int .u32 0, .int .i32 0, .int .u16 0, .int .u16 0, .slice none 0 0]) := Lib.hid ⟨(Blk.new w 108 #[.int .u16 yage, .int .u8 yopts, .int .u8 ytyp, .int .u32 yid, .int .u32 yadv, .int .i32 yseq, .int .u16 ysum, .int .u16 ylen, .slice yA yn yc, .int .i64 yat]).alloc _, new_at w _ _⟩
  have HB2 := Lib.hid hb2
  have HA := Lib.hid (show 0 ≤ yage ∧ yage ≤ 65535 from hx.head.age)
  have a0 := H2.out.1.cell 0; have a1 := H2.out.1.cell 1; have a2 := H2.out.1.cell 2; have a3 := H2.out.1.cell 3; have a4 := H2.out.1.cell 4; have a5 := H2.out.1.cell 5; have a6 := H2.out.1.cell 6; have a7 := H2.out.1.cell 7; have a8 := H2.out.1.cell 8
  simp only [List.getElem?_toArray, List.getElem?_cons_zero, List.getElem?_cons_succ] at a0 a1 a2 a3 a4 a5 a6 a7 a8
  have hrd := hx.later hb2
  have HCp := Lib.hid (copied11 _ ((w.alloc (.cells #[.int .u16 yage, .int .u8 yopts, .int .u8 ytyp, .int .u32 yid, .int .u32 yadv, .int .i32 yseq, .int .u16 ysum, .int .u16 ylen, .slice yA yn yc, .int .i64 yat] 108)).alloc (.cells #[.int .u16 0, .int .u8 0, .int .u8 0, .int .u32 0, .int .u32 0, .int .i32 0, .int .u16 0, .int .u16 0, .slice none 0 0] 61)) hrd)
  clear hx hb2 hrd
  go_enter Tryz.func71, Tryz.ntmps71
  go_wp2_with fail
  refine HCp.out.mono ?_
  rintro e w3 ⟨⟨⟨sage, sopts, styp, sid, sadv, sseq, ssum, slen⟩, sA, sn, sc, sB⟩, rfl, hcp, hb3⟩
  obtain ⟨ch, cB, cn, ck⟩ := hcp
  simp only [Hd.mk.injEq] at ch cB cn
  obtain ⟨rfl, rfl, rfl, rfl, rfl, rfl, rfl, rfl⟩ := ch
  subst cB
  have HK := Lib.hid (ck.mono HB2.out.size)
  have HN := Lib.hid cn
  have H3 := Lib.hid (And.intro (H2.out.1.later hb3) (H2.out.2.later hb3))
  have HB3 := Lib.hid (below_then HB2.out hb3)
  clear ck cn hb3 H2 HB2 HCp a0 a1 a2 a3 a4 a5 a6 a7 a8
  have hb4 : Below w3.heap.size w3 (w3.alloc (.cells #[.int .u16 sage, .int .u8 sopts, .int .u8 styp, .int .u32 sid, .int .u32 sadv, .int .i32 sseq, .int .u16 ssum, .int .u16 slen, .slice sA sn sc] 61)) := (Below.refl _ _).alloc (Nat.le_refl _) _
  have HS4 : Hid (Blk (w3.alloc (.cells #[.int .u16 sage, .int .u8 sopts, .int .u8 styp, .int .u32 sid, .int .u32 sadv, .int .i32 sseq, .int .u16 ssum, .int .u16 slen, .slice sA sn sc] 61)) w3.heap.size 61 #[.int .u16 sage, .int .u8 sopts, .int .u8 styp, .int .u32 sid, .int .u32 sadv, .int .i32 sseq, .int .u16 ssum, .int .u16 slen, .slice sA sn sc]) := Lib.hid (Blk.new _ _ _)
  have H4 := Lib.hid (And.intro (H3.out.1.later hb4) (H3.out.2.later hb4))
  have HB4 := Lib.hid (below_then HB3.out hb4)
  have HK4 := Lib.hid (HK.out.later hb4)
  have o0 := H4.out.1.cell 0; have o9 := H4.out.1.cell 9
  have s0 := HS4.out.cell 0; have f0 := HS4.out.frozen 0
  simp only [List.getElem?_toArray, List.getElem?_cons_zero, List.getElem?_cons_succ] at o0 o9 s0
  have hgt : w.heap.size + 1 < w3.heap.size := H3.out.2.lt
  have hne1 : w.heap.size + 1 ≠ w3.heap.size := by omega
  have hne0 : w.heap.size ≠ w3.heap.size := by omega
  clear hb4
  by_cases hlt : yat < now
  · have dlt : decide (yat < now) = true := decide_eq_true hlt
    have hwr : IntKind.i64.wrap (now - yat) = now - yat := by rw [IntKind.wrap_i64]; omega
    have HA5 := Lib.hid (fun W : World => age05 sage (now - yat) W HA.out.1 HA.out.2)
    go_wp2_with fail
    refine (HA5.out _).mono ?_
    rintro e w' ⟨rfl, rfl⟩
    have hbL : Below w3.heap.size w3 (w3.alloc (.cells #[.int .u16 (laterA sage (now - yat)), .int .u8 sopts, .int .u8 styp, .int .u32 sid, .int .u32 sadv, .int .i32 sseq, .int .u16 ssum, .int .u16 slen, .slice sA sn sc] 61)) := (Below.refl _ _).alloc (Nat.le_refl _) _
    have HVr : Hid (Blk (w3.alloc (.cells #[.int .u16 (laterA sage (now - yat)), .int .u8 sopts, .int .u8 styp, .int .u32 sid, .int .u32 sadv, .int .i32 sseq, .int .u16 ssum, .int .u16 slen, .slice sA sn sc] 61)) w3.heap.size 61 #[.int .u16 (laterA sage (now - yat)), .int .u8 sopts, .int .u8 styp, .int .u32 sid, .int .u32 sadv, .int .i32 sseq, .int .u16 ssum, .int .u16 slen, .slice sA sn sc]) := Lib.hid (Blk.new _ _ _)
    have HRL := Lib.hid (H3.out.2.later hbL)
    have HBL := Lib.hid (below_then HB3.out hbL)
    have HOW := Lib.hid (HK.out.later hbL)
    clear hbL
    go_wp2_with (first
      | (refine wpList_load_row rfl 61 _ rfl w3.heap.size rfl 61 #[.int .u16 (laterA sage (now - yat)), .int .u8 sopts, .int .u8 styp, .int .u32 sid, .int .u32 sadv, .int .i32 sseq, .int .u16 ssum, .int .u16 slen, .slice sA sn sc] (0, 0) _ HVr.out Tryz.underlying61 rfl info_state ?_)
      | (refine wpList_store_row rfl 61 _ _ rfl (w.heap.size + 1) #[.int .u16 (laterA sage (now - yat)), .int .u8 sopts, .int .u8 styp, .int .u32 sid, .int .u32 sadv, .int .i32 sseq, .int .u16 ssum, .int .u16 slen, .slice sA sn sc] rfl rfl 61 _ HRL.out info_state rfl (by simp [Value.oneCell']) ?_))
    refine bodyPost_ret (results_cell_row rfl _ _ (w.heap.size + 1) 61 #[.int .u16 (laterA sage (now - yat)), .int .u8 sopts, .int .u8 styp, .int .u32 sid, .int .u32 sadv, .int .i32 sseq, .int .u16 ssum, .int .u16 slen, .slice sA sn sc] (0, 0) _ rfl (HRL.out.setRow _) Tryz.underlying61 rfl info_state) rfl ?_
    have hh := HX.out.head
    refine ⟨⟨⟨laterA sage (now - yat), sopts, styp, sid, sadv, sseq, ssum, slen⟩, sA, sn, sc, sB⟩, rfl, rfl, ?_, rfl, HN.out, below_setRow HBL.out (by omega) _⟩
    exact ⟨⟨laterA_rng HA.out.1 HA.out.2, hh.opts, hh.typ, hh.id, hh.adv, hh.seq, hh.sum, hh.len⟩, own_row HOW.out.body HRL.out (by decide) _, HK4.out.oct, HK4.out.len⟩
  · have dlt : decide (yat < now) = false := decide_eq_false hlt
    go_wp2_with (first
      | (refine wpList_load_row rfl 61 _ rfl w3.heap.size rfl 61 #[.int .u16 sage, .int .u8 sopts, .int .u8 styp, .int .u32 sid, .int .u32 sadv, .int .i32 sseq, .int .u16 ssum, .int .u16 slen, .slice sA sn sc] (0, 0) _ HS4.out Tryz.underlying61 rfl info_state ?_)
      | (refine wpList_store_row rfl 61 _ _ rfl (w.heap.size + 1) #[.int .u16 sage, .int .u8 sopts, .int .u8 styp, .int .u32 sid, .int .u32 sadv, .int .i32 sseq, .int .u16 ssum, .int .u16 slen, .slice sA sn sc] rfl rfl 61 _ H4.out.2 info_state rfl (by simp [Value.oneCell']) ?_))
    refine bodyPost_ret (results_cell_row rfl _ _ (w.heap.size + 1) 61 #[.int .u16 sage, .int .u8 sopts, .int .u8 styp, .int .u32 sid, .int .u32 sadv, .int .i32 sseq, .int .u16 ssum, .int .u16 slen, .slice sA sn sc] (0, 0) _ rfl (H4.out.2.setRow _) Tryz.underlying61 rfl info_state) rfl ?_
    refine ⟨⟨⟨sage, sopts, styp, sid, sadv, sseq, ssum, slen⟩, sA, sn, sc, sB⟩, rfl, ?_, ?_, rfl, HN.out, below_setRow HB4.out (by omega) _⟩
    · show _ = (⟨laterA sage (now - yat), sopts, styp, sid, sadv, sseq, ssum, slen⟩ : Hd)
      rw [laterA_same (.inr (by omega))]
    · exact ⟨HX.out.head, own_row HK4.out.body H4.out.2 (by decide) _, HK4.out.oct, HK4.out.len⟩
end Go.Proofs.YtpncbggjngamgaaGreatDoor
