/-
  The reference's queue in memory: less, find, When, Next.
-/
import Derived.Test.YtgpgcjdbppehjaaQue20
namespace Go.Proofs.Ytgpgcjdbppehjaa
set_option linter.unusedVariables false
open Go.RowKit

theorem info_refent3 : (Try.prog.info? 73).map (fun i => (i.zero, i.size, i.bytes)) = some (some (.agg #[.int .i64 0, .int .i64 0, .int .u64 0]), 3, 24) := by kernel_rfl
theorem info_refent : (Try.prog.info? 73).map (·.size) = some 3 := by kernel_rfl
theorem el_refent : El Try.prog 46 73 3 24 := El.mk' Try.underlying46 info_refent3 rfl (by omega)
/-- The reference's queue: block g, of the entries l; its blocks in F. -/
structure RQ (w : World) (F : Nat → Prop) (g : Nat) (most : Int) (l : List Ent) : Prop where
  ex : ∃ kv, Blk w g 48 #[kv, .int .i64 most] ∧ OwnW w 73 3 kv l.length (l.flatMap Ent.cells) ∧ ∀ i, kv.ownBlock = some i → F i
  fg : F g
  few : l.length ≤ 1048576
  lim : ∀ i, F i → i < w.heap.size
theorem RQ.later {w w' : World} {F : Nat → Prop} {g : Nat} {most : Int} {l : List Ent} (q : RQ w F g most l) (hb : Below w.heap.size w w') : RQ w' F g most l := by
  obtain ⟨kv, h1, h2, h3⟩ := q.ex
  exact ⟨⟨kv, h1.later hb, h2.later hb, h3⟩, q.fg, q.few, fun i hi => Nat.lt_of_lt_of_le (q.lim i hi) hb.size⟩
theorem RQ.kept {w w' : World} {R F : Nat → Prop} {g : Nat} {most : Int} {l : List Ent} (q : RQ w F g most l) (k : Kept R w w') (hn : ∀ i, F i → ¬ R i) : RQ w' F g most l := by
  obtain ⟨kv, h1, h2, h3⟩ := q.ex
  exact ⟨⟨kv, h1.kept k (hn g q.fg), h2.kept k (fun i hi => hn i (h3 i hi)), h3⟩, q.fg, q.few, fun i hi => Nat.lt_of_lt_of_le (q.lim i hi) k.size⟩
set_option maxRecDepth 100000 in
theorem rless_any (a b : Ent) (w : World) : Calls Try.prog 45 #[a.v, b.v] w fun e w' => e = .returned (.bool (lessE a b)) ∧ Below w.heap.size w w' := by
  by_cases h1 : a.at_ = b.at_
  · by_cases h2 : a.rank = b.rank
    · have d1 : (a.at_ != b.at_) = false := by simp [h1]
      have d2 : (a.rank != b.rank) = false := by simp [h2]
      have hl := Lib.hid (show lessE a b = decide (a.what < b.what) by unfold lessE; rw [if_neg (by simp [h1]), if_neg (by simp [h2])])
      clear h1 h2
      go_enter Try.func45, Try.ntmps45
      go_wp2
      go_ret
      exact ⟨by rw [hl.out]; rfl, below_two _ _ _⟩
    · have d1 : (a.at_ != b.at_) = false := by simp [h1]
      have d2 : (a.rank != b.rank) = true := by simp [h2]
      have hl := Lib.hid (show lessE a b = decide (a.rank < b.rank) by unfold lessE; rw [if_neg (by simp [h1]), if_pos h2])
      clear h1 h2
      go_enter Try.func45, Try.ntmps45
      go_wp2
      go_ret
      exact ⟨by rw [hl.out]; rfl, below_two _ _ _⟩
  · have d1 : (a.at_ != b.at_) = true := by simp [h1]
    have hl := Lib.hid (show lessE a b = decide (a.at_ < b.at_) by unfold lessE; rw [if_pos h1])
    clear h1
    go_enter Try.func45, Try.ntmps45
    go_wp2
    go_ret
    exact ⟨by rw [hl.out]; rfl, below_two _ _ _⟩
/-- Where find finds it. -/
def findI (l : List Ent) (x : Int) : Int := match posL l x with
  | some i => i
  | none => -1
theorem findI_none {l : List Ent} {x : Int} (h : posL l x = none) : findI l x = -1 := by unfold findI; rw [h]
theorem findI_some {l : List Ent} {x : Int} {i : Nat} (h : posL l x = some i) : findI l x = i := by unfold findI; rw [h]
theorem posL_first {l : List Ent} {x : Int} {i : Nat} {e : Ent} (he : l[i]? = some e) (hx : e.what = x) (hn : ∀ (j : Nat) (e : Ent), j < i → l[j]? = some e → e.what ≠ x) : posL l x = some i := by
  unfold posL
  rw [List.findIdx?_eq_some_iff_getElem]
  obtain ⟨h1, h2⟩ := List.getElem?_eq_some_iff.1 he
  refine ⟨h1, by simp [h2, hx], fun j hj => ?_⟩
  have := hn j l[j] hj (List.getElem?_eq_getElem (by omega))
  simpa using this
set_option maxRecDepth 100000 in
set_option maxHeartbeats 2000000 in
theorem rfind_any (w : World) (F : Nat → Prop) (g : Nat) (most : Int) (l : List Ent) (q : RQ w F g most l) (x : Int) :
    Calls Try.prog 44 #[.pointer (some ⟨g, 0, none⟩), .int .u64 x] w fun e w' => e = .returned (.int .i64 (findI l x)) ∧ w = w' := by
  obtain ⟨kv, hB, hO, hF⟩ := q.ex
  have hfew := q.few
  obtain ⟨A, c, rfl, -, -, hR, -⟩ := hO.shape
  have h0 : w.cell? ⟨g, 0, none⟩ = some (.slice A l.length c) := hB.cell 0
  have HR := Lib.hid hR
  obtain ⟨N, hN⟩ : ∃ N, l.length = N := ⟨_, rfl⟩
  have HN := Lib.hid hN
  rw [hN] at h0 hfew HR
  clear hN hB hO hF hR q
  go_enter Try.func44, Try.ntmps44
  go_wp2
  go_loop [5] (fun i => ∃ k : Nat, i = .int .i64 k ∧ k ≤ N ∧ Hid (∀ (j : Nat) (e : Ent), j < k → l[j]? = some e → e.what ≠ x)) (fun i => N - (intOf i).toNat)
  case atStart => exact ⟨0, rfl, Nat.zero_le _, Lib.hid fun j e h => by omega⟩
  case round =>
    obtain ⟨k, rfl, hk, HK⟩ := hrel
    by_cases hlt : k < N
    · have hltI : (k : Int) < N := by omega
      obtain ⟨ad, e, hA, -, he, e0, ej⟩ := rowG_at ent_len HR.out HN.out hlt
      subst hA
      have c2 := ej 2 _ (by decide) rfl
      have HE := Lib.hid he
      clear e0 ej he
      by_cases hx : e.what = x
      · have hbx : (e.what == x) = true := by rw [beq_iff_eq]; exact hx
        have HX := Lib.hid hx
        clear hx
        go_wp2
        go_ret
        exact ⟨by rw [findI_some (posL_first HE.out HX.out HK.out)]; rfl, rfl⟩
      · have hbx : (e.what == x) = false := by rw [beq_eq_false_iff_ne]; exact hx
        have HX := Lib.hid hx
        clear hx
        go_wp2
        go_round
        case rel => exact ⟨k + 1, by go_num, by omega, Lib.hid fun j e' hj he' => by
          by_cases hjk : j < k
          · exact HK.out j e' hjk he'
          · obtain rfl : j = k := by omega
            have := HE.out
            rw [he'] at this
            injection this with this
            rw [this]; exact HX.out⟩
        case measure => simp [intOf]; omega
    · obtain rfl : k = N := by omega
      clear hlt
      go_wp2
      go_ret
      have hp : posL l x = none := posL_none.2 fun e he => by
        obtain ⟨j, hj⟩ := List.getElem?_of_mem he
        exact HK.out j e (by have := (List.getElem?_eq_some_iff.1 hj).1; have := HN.out; omega) hj
      exact ⟨by rw [findI_none hp]; rfl, rfl⟩
/-- What When tells. -/
structure WhenM (l : List Ent) (x n : Int) (b : Bool) : Prop where
  yes : b = true → ∃ z ∈ l, z.what = x ∧ n = z.at_
  no : b = false → n = 0 ∧ ∀ z ∈ l, z.what ≠ x
set_option maxRecDepth 100000 in
theorem rwhen_any (w : World) (F : Nat → Prop) (g : Nat) (most : Int) (l : List Ent) (q : RQ w F g most l) (x : Int) :
    Calls Try.prog 36 #[.pointer (some ⟨g, 0, none⟩), .int .u64 x] w fun e w' => ∃ n b, e = .returned (.tuple #[.int .i64 n, .bool b]) ∧ WhenM l x n b ∧ w = w' := by
  have H := Lib.hid (rfind_any w F g most l q x)
  rcases hp : posL l x with _ | i
  · have HP := Lib.hid (posL_none.1 hp)
    rw [findI_none hp] at H
    clear q hp
    go_enter Try.func36, Try.ntmps36
    go_wp2_with fail
    refine H.out.mono ?_
    rintro e w1 ⟨rfl, rfl⟩
    go_wp2
    go_ret2
    exact ⟨0, false, rfl, ⟨(fun h => by cases h), fun _ => ⟨rfl, HP.out⟩⟩, rfl⟩
  · rw [findI_some hp] at H
    have hil := posL_lt hp
    obtain ⟨kv, hB, hO, hF⟩ := q.ex
    obtain ⟨A, c, rfl, -, -, hR, -⟩ := hO.shape
    have h0 : w.cell? ⟨g, 0, none⟩ = some (.slice A l.length c) := hB.cell 0
    obtain ⟨ad, e, hA, -, he, e0, ej⟩ := rowG_at ent_len hR rfl hil
    subst hA
    have c0 := e0 _ rfl
    have HE : Hid (WhenM l x e.at_ true) := Lib.hid ⟨fun _ => ⟨e, List.mem_of_getElem? he, by
      unfold posL at hp
      rw [List.findIdx?_eq_some_iff_getElem] at hp
      obtain ⟨h1, h2, _⟩ := hp
      rw [List.getElem?_eq_getElem h1] at he
      injection he with he
      rw [he] at h2
      simpa using h2, rfl⟩, (fun h => by cases h)⟩
    obtain ⟨N, hN⟩ : ∃ N, l.length = N := ⟨_, rfl⟩
    rw [hN] at hil h0
    have hiI : (i : Int) < N := by omega
    clear q hp hB hO hF hR e0 ej he hN
    go_enter Try.func36, Try.ntmps36
    go_wp2_with fail
    refine H.out.mono ?_
    rintro e' w1 ⟨rfl, rfl⟩
    go_wp2
    go_ret2
    exact ⟨_, true, rfl, HE.out, rfl⟩
/-- What Next tells. -/
structure NextM (l : List Ent) (z : Ent) (b : Bool) : Prop where
  yes : b = true → z ∈ l ∧ ∀ y ∈ l, lessE y z = false
  no : b = false → l = [] ∧ z = zE
def Box3 (W : World) (gx : Nat) (z : Ent) : Prop := Blk W gx 73 #[.int .i64 z.at_, .int .i64 z.rank, .int .u64 z.what]
theorem Box3.cells {W : World} {gx : Nat} {z : Ent} (h : Box3 W gx z) : W.cell? ⟨gx, 0, none⟩ = some (.int .i64 z.at_) ∧ W.cell? ⟨gx, 1, none⟩ = some (.int .i64 z.rank) ∧ W.cell? ⟨gx, 2, none⟩ = some (.int .u64 z.what) := ⟨Blk.cell h 0, Blk.cell h 1, Blk.cell h 2⟩
structure NX (w : World) (gr gx N : Nat) (l : List Ent) (i : Value) (wr : World) : Prop where
  ex : ∃ (k : Nat) (z : Ent), i = .int .i64 k ∧ 1 ≤ k ∧ k ≤ N ∧ Hid (Box3 wr gx z) ∧ Hid (z ∈ l ∧ ∀ (j : Nat) (y : Ent), j < k → l[j]? = some y → lessE y z = false)
  zero : Hid (Box3 wr gr zE)
  below : Hid (Below w.heap.size w wr)
def EntAt (W : World) (ad : Addr) (o : Ent) : Prop := W.cell? ad = some (.int .i64 o.at_) ∧ W.cell? ⟨ad.block, ad.off + 1, none⟩ = some (.int .i64 o.rank) ∧ W.cell? ⟨ad.block, ad.off + 2, none⟩ = some (.int .u64 o.what)
def NxS (W : World) (g gx : Nat) (sv : Value) (ad : Addr) (o z : Ent) : Prop := W.cell? ⟨g, 0, none⟩ = some sv ∧ EntAt W ad o ∧ W.cell? ⟨gx, 0, none⟩ = some (.int .i64 z.at_) ∧ W.cell? ⟨gx, 1, none⟩ = some (.int .i64 z.rank) ∧ W.cell? ⟨gx, 2, none⟩ = some (.int .u64 z.what)
theorem EntAt.later {W W' : World} {ad : Addr} {o : Ent} (h : EntAt W ad o) (hb : Below W.heap.size W W') : EntAt W' ad o :=
  ⟨(hb.cell (cell_lt h.1)).trans h.1, (hb.cell (cell_lt h.2.1)).trans h.2.1, (hb.cell (cell_lt h.2.2)).trans h.2.2⟩
theorem NxS.later {W W' : World} {g gx : Nat} {sv : Value} {ad : Addr} {o z : Ent} (h : NxS W g gx sv ad o z) (hb : Below W.heap.size W W') : NxS W' g gx sv ad o z :=
  ⟨(hb.cell (cell_lt h.1)).trans h.1, h.2.1.later hb, (hb.cell (cell_lt h.2.2.1)).trans h.2.2.1, (hb.cell (cell_lt h.2.2.2.1)).trans h.2.2.2.1, (hb.cell (cell_lt h.2.2.2.2)).trans h.2.2.2.2⟩
set_option maxRecDepth 100000 in
set_option maxHeartbeats 8000000 in
theorem rnext_none (w : World) (F : Nat → Prop) (g : Nat) (most : Int) (q : RQ w F g most []) :
    Calls Try.prog 33 #[.pointer (some ⟨g, 0, none⟩)] w fun e w' => e = .returned (.tuple #[zE.v, .bool false]) ∧ Below w.heap.size w w' := by
  have hb1 : Below w.heap.size w (w.alloc (.cells #[.int .i64 0, .int .i64 0, .int .u64 0] 73)) := (Below.refl _ _).alloc (Nat.le_refl _) _
  have q1 := q.later hb1
  obtain ⟨kv, hB, hO, hF⟩ := q1.ex
  obtain ⟨A, c, rfl, -⟩ := hO.shape
  have h0 : (w.alloc (.cells #[.int .i64 0, .int .i64 0, .int .u64 0] 73)).cell? ⟨g, 0, none⟩ = some (.slice A 0 c) := hB.cell 0
  have HZ := Lib.hid (Blk.new w 73 #[.int .i64 0, .int .i64 0, .int .u64 0])
  have HB1 := Lib.hid hb1
  clear q hB hO hF q1 hb1
  go_enter Try.func33, Try.ntmps33
  go_wp2_with (refine wpList_store_row rfl 73 _ _ rfl w.heap.size #[.int .i64 0, .int .i64 0, .int .u64 0] rfl rfl 73 _ (heap_alloc_new w _) info_refent rfl (by simp [Value.oneCell']) ?_; rw [World.setRow_alloc_new])
  exact bodyPost_ret (results_cell_row_tmp rfl _ _ w.heap.size 73 #[.int .i64 0, .int .i64 0, .int .u64 0] (0, 0) _ rfl HZ.out Try.underlying73 rfl info_refent) rfl ⟨rfl, HB1.out⟩
set_option maxRecDepth 100000 in
set_option maxHeartbeats 8000000 in
theorem rnext_some (w : World) (F : Nat → Prop) (g : Nat) (most : Int) (l : List Ent) (q : RQ w F g most l) (hlp : 0 < l.length) :
    Calls Try.prog 33 #[.pointer (some ⟨g, 0, none⟩)] w fun e w' => ∃ z, e = .returned (.tuple #[z.v, .bool true]) ∧ NextM l z true ∧ Below w.heap.size w w' := by
  have hfew := q.few
  have hb1 : Below w.heap.size w (w.alloc (.cells #[.int .i64 0, .int .i64 0, .int .u64 0] 73)) := (Below.refl _ _).alloc (Nat.le_refl _) _
  obtain ⟨kv, hB, hO, hF⟩ := q.ex
  obtain ⟨A, c, rfl, -, -, hR, -⟩ := hO.shape
  obtain ⟨ad, z0, rfl, -, hz0, e0, ej⟩ := rowG_at ent_len hR rfl hlp
  have hE : EntAt w ad z0 := by have := e0 _ rfl; rw [Nat.zero_mul, add_zero] at this ej; exact ⟨this, ej 1 _ (by decide) rfl, ej 2 _ (by decide) rfl⟩
  obtain ⟨c0, c1, c2⟩ := hE.later hb1
  have h0 : w.cell? ⟨g, 0, none⟩ = some (.slice (some ad) l.length c) := hB.cell 0
  have h1 : (w.alloc (.cells #[.int .i64 0, .int .i64 0, .int .u64 0] 73)).cell? ⟨g, 0, none⟩ = some (.slice (some ad) l.length c) := (hB.later hb1).cell 0
  obtain ⟨N, hN⟩ : ∃ N, l.length = N := ⟨_, rfl⟩
  have HN := Lib.hid hN
  rw [hN] at h0 h1 hfew hR hlp
  have HH := Lib.hid (And.intro hR (And.intro h0 hz0))
  have HG := Lib.hid hB.lt
  have HZ := Lib.hid (Blk.new w 73 #[.int .i64 0, .int .i64 0, .int .u64 0])
  have HB1 := Lib.hid hb1
  have hl0 : ((N : Int) == 0) = false := by rw [beq_eq_false_iff_ne]; omega
  have hlI : (0 : Int) < N := by omega
  clear q hB hO hF hb1 hN hR h0 hz0 e0 ej hE
  go_enter Try.func33, Try.ntmps33
  go_wp2
  generalize hgr : w.heap.size = gr at *
  generalize hgx : gr + 1 = gx at *
  have hb2 : Below w.heap.size w ((w.alloc (.cells #[.int .i64 0, .int .i64 0, .int .u64 0] 73)).alloc (.cells #[.int .i64 z0.at_, .int .i64 z0.rank, .int .u64 z0.what] 73)) := below_two _ _ _
  have hx2 : Blk ((w.alloc (.cells #[.int .i64 0, .int .i64 0, .int .u64 0] 73)).alloc (.cells #[.int .i64 z0.at_, .int .i64 z0.rank, .int .u64 z0.what] 73)) gx 73 #[.int .i64 z0.at_, .int .i64 z0.rank, .int .u64 z0.what] := by
    rw [← hgx, ← hgr]; exact new_at _ _ _
  have hr2 : Blk ((w.alloc (.cells #[.int .i64 0, .int .i64 0, .int .u64 0] 73)).alloc (.cells #[.int .i64 z0.at_, .int .i64 z0.rank, .int .u64 z0.what] 73)) gr 73 #[.int .i64 0, .int .i64 0, .int .u64 0] := HZ.out.alloc _
  generalize (w.alloc (.cells #[.int .i64 0, .int .i64 0, .int .u64 0] 73)).alloc (.cells #[.int .i64 z0.at_, .int .i64 z0.rank, .int .u64 z0.what] 73) = w2 at *
  have HB2 := Lib.hid hb2
  have HX2 := Lib.hid hx2
  have HR2 := Lib.hid hr2
  have HGR := Lib.hid (And.intro hgr hgx)
  have HG2 := Lib.hid (show g < w.heap.size by rw [hgr]; exact HG.out)
  have HH2 := Lib.hid (show Reads w w.heap.size 3 (some ad) N (l.flatMap Ent.cells) by rw [hgr]; exact HH.out.1)
  clear hb2 hx2 hr2 hgr hgx c0 c1 c2 h1 HB1 HZ
  go_loopw [5] (NX w gr gx N l) (fun t _ => N - (intOf t).toNat)
  case atStart => exact ⟨⟨1, z0, rfl, Nat.le_refl _, by omega, HX2, Lib.hid ⟨List.mem_of_getElem? HH.out.2.2, fun j y hj hy => by
    obtain rfl : j = 0 := by omega
    rw [HH.out.2.2] at hy
    injection hy with hy
    rw [hy]; exact lessE_irrefl y⟩⟩, HR2, HB2⟩
  case round =>
    clear HB2 HX2 HR2
    obtain ⟨⟨k, z, rfl, hk1, hk, HX, HZ⟩, HR, HB⟩ := hrel
    have c0 : wr.cell? ⟨g, 0, none⟩ = some (.slice (some ad) N c) := (HB.out.cell (p := ⟨g, 0, none⟩) HG2.out).trans HH.out.2.1
    by_cases hlt : k < N
    · have hltI : (k : Int) < N := by omega
      obtain ⟨ad', e, hA, -, he, e0, ej⟩ := rowG_at ent_len (HH2.out.below HB.out) HN.out hlt
      injection hA with hA
      subst hA
      have HS : Hid ((fun W : World => NxS W g gx (.slice (some ad) N c) (ad.add (k * 3)) e z) wr.drew) := Lib.hid ⟨c0, ⟨e0 _ rfl, ej 1 _ (by decide) rfl, ej 2 _ (by decide) rfl⟩, HX.out.cells⟩
      have HE := Lib.hid he
      have HX3 : Hid (Box3 wr.drew gx z) := HX
      have HR3 : Hid (Box3 wr.drew gr zE) := HR
      have HB3 : Hid (Below w.heap.size w wr.drew) := HB.out.drew
      clear e0 ej he HX HR HB
      go_wp2_with fail
      clear c0
      refine wp_region_s (fun W : World => NxS W g gx (.slice (some ad) N c) (ad.add (k * 3)) e z) [(0, true), (1, true), (2, true), (4, true), (3, true), (5, true), (6, true), (7, true), (8, false)] (by kernel_rfl) (fun _ d _ _ _ h => by cases d <;> exact h) ?_
      simp only [List.map_cons, List.map_nil, nthOp_zero, nthOp_succ]
      generalize wr.drew = w3 at *
      refine wpS_take HS (by rfl) (by intro W hW; clear hW; go_simp; try with_reducible rfl) ?_
      refine wpS_take HS (by rfl) (by intro W hW; clear hW; go_simp; try with_reducible rfl) ?_
      refine wpS_take HS (by rfl) (by intro W hW; clear hW; go_simp; try with_reducible rfl) ?_
      refine wpS_take HS (by rfl) (by intro W hW; clear hW; go_simp; try with_reducible rfl) ?_
      refine wpS_take HS (by rfl) (by intro W hW; obtain ⟨a0, ⟨a1, a2, a3⟩, a4, a5, a6⟩ := hW; go_simp; try with_reducible rfl) ?_
      refine wpS_take HS (by rfl) (by intro W hW; obtain ⟨a0, ⟨a1, a2, a3⟩, a4, a5, a6⟩ := hW; go_simp; try with_reducible rfl) ?_
      refine wpS_take HS (by rfl) (by intro W hW; obtain ⟨a0, ⟨a1, a2, a3⟩, a4, a5, a6⟩ := hW; go_simp; try with_reducible rfl) ?_
      refine wpS_take HS (by rfl) (by intro W hW; obtain ⟨a0, ⟨a1, a2, a3⟩, a4, a5, a6⟩ := hW; go_simp; try with_reducible rfl) ?_
      go_simp
      refine wpS_do fun K hK => ?_
      go_wp2_with fail
      refine (rless_any e z w3).mono ?_
      rintro e' w4 ⟨rfl, hb⟩
      have HS4 : Hid ((fun W : World => NxS W g gx (.slice (some ad) N c) (ad.add (k * 3)) e z) w4) := Lib.hid (HS.out.later hb)
      have HX4 : Hid (Box3 w4 gx z) := Lib.hid (Blk.later HX3.out hb)
      have HR4 : Hid (Box3 w4 gr zE) := Lib.hid (Blk.later HR3.out hb)
      have HB4 := Lib.hid (below_then HB3.out hb)
      clear hb HS HX3 HR3 HB3
      go_wp2_with fail
      refine hK.out _ _ HS4.out ?_
      clear hK K
      refine wpS_nil ?_
      go_simp
      cases hls : lessE e z
      · have HL := Lib.hid hls
        clear hls
        go_wp2_with fail
        go_roundw
        case rel => exact ⟨⟨k + 1, z, by go_num, by omega, by omega, HX4, Lib.hid ⟨HZ.out.1, fun j y hj hy => by
            by_cases hjk : j < k
            · exact HZ.out.2 j y hjk hy
            · obtain rfl : j = k := by omega
              rw [HE.out] at hy
              injection hy with hy
              rw [← hy]; exact HL.out⟩⟩, HR4, HB4⟩
        case measure => simp [intOf]; omega
      · obtain ⟨a0, ⟨a1, a2, a3⟩, a4, a5, a6⟩ := HS4.out
        have HL := Lib.hid hls
        clear hls
        go_wp2_with (refine wpList_store_row rfl 73 _ _ rfl gx #[.int .i64 e.at_, .int .i64 e.rank, .int .u64 e.what] rfl rfl 73 _ HX4.out info_refent rfl (by simp [Value.oneCell']) ?_)
        go_roundw
        case rel =>
          have hgx : gx ≠ gr := by have := HGR.out.2; omega
          exact ⟨⟨k + 1, e, by go_num, by omega, by omega, Lib.hid (Blk.setRow HX4.out _), Lib.hid ⟨List.mem_of_getElem? HE.out, fun j y hj hy => by
            by_cases hjk : j < k
            · exact geE_of (HZ.out.2 j y hjk hy) HL.out
            · obtain rfl : j = k := by omega
              rw [HE.out] at hy
              injection hy with hy
              rw [hy]; exact lessE_irrefl y⟩⟩, Lib.hid (Blk.setRow_far HR4.out (Ne.symm hgx) _), Lib.hid (below_setRow HB4.out (by have := HGR.out; omega) _)⟩
        case measure => simp [intOf]; omega
    · obtain rfl : k = N := by omega
      obtain ⟨a4, a5, a6⟩ := HX.out.cells
      clear hlt
      go_wp2_with (refine wpList_store_row rfl 73 _ _ rfl gr #[.int .i64 z.at_, .int .i64 z.rank, .int .u64 z.what] rfl rfl 73 _ HR.out info_refent rfl (by simp [Value.oneCell']) ?_)
      refine bodyPost_ret (results_cell_row_tmp rfl _ _ gr 73 #[.int .i64 z.at_, .int .i64 z.rank, .int .u64 z.what] (0, 0) _ rfl (Blk.setRow HR.out _) Try.underlying73 rfl info_refent) rfl ⟨z, rfl, ⟨fun _ => ⟨HZ.out.1, fun y hy => ?_⟩, (fun h => by cases h)⟩, below_setRow HB.out (by have := HGR.out.1; omega) _⟩
      obtain ⟨j, hj⟩ := List.getElem?_of_mem hy
      exact HZ.out.2 j y (by have := (List.getElem?_eq_some_iff.1 hj).1; have := HN.out; omega) hj
theorem rnext_any (w : World) (F : Nat → Prop) (g : Nat) (most : Int) (l : List Ent) (q : RQ w F g most l) :
    Calls Try.prog 33 #[.pointer (some ⟨g, 0, none⟩)] w fun e w' => ∃ z b, e = .returned (.tuple #[z.v, .bool b]) ∧ NextM l z b ∧ Below w.heap.size w w' := by
  by_cases h : l = []
  · subst h
    exact (rnext_none w F g most q).mono fun e w' ⟨h1, h2⟩ => ⟨zE, false, h1, ⟨(fun h => by cases h), fun _ => ⟨rfl, rfl⟩⟩, h2⟩
  · exact (rnext_some w F g most l q (List.length_pos_iff.2 h)).mono fun e w' ⟨z, h1, h2, h3⟩ => ⟨z, true, h1, h2, h3⟩
end Go.Proofs.Ytgpgcjdbppehjaa
