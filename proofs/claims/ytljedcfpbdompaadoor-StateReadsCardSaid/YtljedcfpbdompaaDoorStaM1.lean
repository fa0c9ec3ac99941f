/-
  Reading a body: numbers, the summary.
  Reading a body: the summary, the outer form. Printed by gen_sta14.py.
  Reading a body: the opaque form.
  Reading a body: the network's form.
  Reading a body: the router's form. Printed by gen_sta17.py.
-/
import Derived.Test.YtljedcfpbdompaaDoorSta12
import Derived.Test.YtljedcfpbdompaaDoorRgn3
import Derived.Test.YtljedcfpbdompaaDoorRgn4
namespace Go.Proofs.YtljedcfpbdompaaDoor
set_option linter.unusedVariables false
open Go.RowKit Go.ChangeShapes Go.WideShapes

/-- A number that was read. -/
structure NumR (s : Rd) (k : Nat) (v : Int) (s2 : Rd) : Prop where
  is : s.num k = (v, s2)
  lo : 0 ≤ v
  hi : v < 256 ^ k
  xs : s2.xs = s.xs
  cases : (s.e = 0 ∧ s.pos + k ≤ s.xs.length ∧ v = be ((s.xs.drop s.pos).take k) ∧ s2 = ⟨s.xs, s.pos + k, 0⟩) ∨ ((s.e ≠ 0 ∨ s.xs.length < s.pos + k) ∧ v = 0 ∧ s2.e ≠ 0)
theorem NumR.yes {s s2 : Rd} {k : Nat} {v : Int} (n : NumR s k v s2) (h : s2.e = 0) : s.e = 0 ∧ s.pos + k ≤ s.xs.length ∧ v = be ((s.xs.drop s.pos).take k) ∧ s2 = ⟨s.xs, s.pos + k, 0⟩ := by
  rcases n.cases with c | ⟨_, _, c⟩
  · exact c
  · exact absurd h c
theorem NumR.fit {s s2 : Rd} {k : Nat} {v : Int} (n : NumR s k v s2) (he : s.e = 0) (hl : s.pos + k ≤ s.xs.length) : v = be ((s.xs.drop s.pos).take k) ∧ s2 = ⟨s.xs, s.pos + k, 0⟩ := by
  rcases n.cases with ⟨_, _, c⟩ | ⟨c, _, _⟩
  · exact c
  · omega
theorem numR_of (s : Rd) (ho : Oct s.xs) {k : Nat} (h1 : 1 ≤ k) (h4 : k ≤ 4) : NumR s k (s.num k).1 (s.num k).2 := by
  have e1 : (if (k : Int) < 1 ∨ 4 < (k : Int) then (-1 : Int) else k) = k := by rw [if_neg (by omega)]
  have hp : (0 : Int) < 256 ^ k := by
    have h3 : k = 1 ∨ k = 2 ∨ k = 3 ∨ k = 4 := by omega
    rcases h3 with rfl | rfl | rfl | rfl <;> decide
  by_cases he : s.e = 0
  · by_cases hl : s.pos + k ≤ s.xs.length
    · obtain ⟨xs, p, e⟩ := s
      subst he
      have := num_at (xs := xs) (p := p) (k := k) hl h1 h4
      rw [this]
      have hb := be_at ho p k
      exact ⟨this, hb.1, hb.2, rfl, .inl ⟨rfl, hl, rfl, rfl⟩⟩
    · have hn : s.num k = (0, { s with e := 10 }) := by
        unfold Rd.num
        rw [e1]
        unfold Rd.next
        rw [if_pos he, if_neg (by omega), if_pos (by omega)]
        rfl
      rw [hn]
      exact ⟨hn, by simp, by simpa using hp, rfl, .inr ⟨.inr (by omega), rfl, by simp⟩⟩
  · have hn : s.num k = (0, s) := by
      unfold Rd.num
      rw [e1]
      unfold Rd.next
      rw [if_neg he]
      rfl
    rw [hn]
    exact ⟨hn, by simp, by simpa using hp, rfl, .inr ⟨.inl he, rfl, he⟩⟩
theorem rr_numx (w0 w : World) (g : Nat) (q : Rq) (s : Rd) (h : RR w0 w g q s) (k : Nat) (h1 : 1 ≤ k) (h4 : k ≤ 4) :
    Calls Tryd.prog 53 #[.pointer (some ⟨g, 0, none⟩), .int .i64 (k : Int)] w fun e w' => ∃ v s2, e = .returned (.int .u32 v) ∧ NumR s k v s2 ∧ RR w0 w' g q s2 ∧ Kept (fun i => i = g) w w' := by
  refine (rr_num w0 w g q s h k (by omega)).mono ?_
  rintro e w' ⟨rfl, h2, h3⟩
  exact ⟨_, _, rfl, numR_of s h.oct h1 h4, h2, h3⟩
/-- The links that stand at a place. -/
def linkAt (xs : List Int) (p : Nat) : Lk := ⟨be ((xs.drop p).take 4), be ((xs.drop (p + 4)).take 4), be ((xs.drop (p + 8)).take 1), be ((xs.drop (p + 10)).take 2)⟩
/-- Whether bytes have the length that the form wants. -/
def fitB (t : Int) (xs : List Int) : Prop :=
  if t = 1 then 4 ≤ xs.length ∧ (xs.length : Int) = 4 + 12 * be ((xs.drop 2).take 2)
  else if t = 2 then 4 ≤ xs.length ∧ xs.length % 4 = 0
  else if t = 3 ∨ t = 4 then xs.length = 8
  else if t = 5 ∨ t = 7 then xs.length = 16
  else True
/-- What stands in the bytes of a body. -/
structure Says (t : Int) (xs : List Int) (b : BA) : Prop where
  flags : b.flags = if t = 1 then be ((xs.drop 0).take 1) else 0
  links : b.links = if t = 1 then (List.range (be ((xs.drop 2).take 2)).toNat).map (fun i => linkAt xs (4 + 12 * i)) else []
  mask : b.mask = if t = 2 ∨ t = 3 ∨ t = 4 ∨ t = 5 ∨ t = 7 then be ((xs.drop 0).take 4) else 0
  routers : b.routers = if t = 2 then (List.range (xs.length / 4 - 1)).map (fun i => be ((xs.drop (4 + 4 * i)).take 4)) else []
  metric : b.metric = if t = 3 ∨ t = 4 then be ((xs.drop 4).take 4) else if t = 5 ∨ t = 7 then be ((xs.drop 5).take 3) else 0
  t2 : b.t2 = if t = 5 ∨ t = 7 then decide (be ((xs.drop 4).take 1) = 128) else false
  fwd : b.fwd = if t = 5 ∨ t = 7 then be ((xs.drop 8).take 4) else 0
  tag : b.tag = if t = 5 ∨ t = 7 then be ((xs.drop 12).take 4) else 0
  data : b.data = if t = 1 ∨ t = 2 ∨ t = 3 ∨ t = 4 ∨ t = 5 ∨ t = 7 then [] else xs
/-- A body whose rows are its own, new since base. -/
def BA.own (base : Nat) (W : World) (b : BA) : Prop :=
  W.ownsRow base 111 4 (.slice b.LA b.ln b.lc) b.ln (b.links.flatMap Lk.cells) ∧ W.ownsRow base 26 1 (.slice b.RA b.rn b.rc) b.rn (u32s b.routers) ∧ W.ownsRow base 5 1 (.slice b.DA b.dn b.dc) b.dn (u8s b.data)
theorem own_nil (W : World) (base : Nat) (t : TypeId) (k : Nat) : W.ownsRow base t k (.slice none 0 0) 0 [] := by simp [World.ownsRow]
/-- What a form's reader leaves. -/
def RdP (w0 w w' : World) (g : Nat) (q : Rq) (t : Int) (xs : List Int) (e : Ending) : Prop :=
  ∃ b s, e = .returned (BA.v b) ∧ RR w0 w' g q s ∧ (BA.rd w' b ∧ BA.own w.heap.size w' b) ∧ Kept (fun i => i = g) w w' ∧ s.xs = xs ∧ (s.e = 0 ∧ s.left = 0 → fitB t xs ∧ Says t xs b) ∧ (fitB t xs → s.e = 0 ∧ s.left = 0)
theorem left_of (xs : List Int) (p : Nat) : (⟨xs, p, 0⟩ : Rd).left = (xs.length : Int) - p := rfl
/-- A cell that is newer than the reader is written. -/
theorem RR.put {w0 w : World} {g gb : Nat} {q : Rq} {s : Rd} (h : RR w0 w g q s) (hg : g ≠ gb) (hA : 0 < q.n → ∀ ad, q.A = some ad → ad.block < gb) (h0 : w0.heap.size ≤ gb) (i : Nat) (u : Value) : RR w0 (w.setCell ⟨gb, i, none⟩ u) g q s :=
  h.kept (kept_setC w gb i u) (fun e => hg e) (fun hn ad e e' => by have := hA hn ad e; have h2 : ad.block = gb := e'; omega) (fun i e => by have h2 : i = gb := e; omega)
theorem RR.putRow {w0 w : World} {g gb : Nat} {q : Rq} {s : Rd} (h : RR w0 w g q s) (hg : g ≠ gb) (hA : 0 < q.n → ∀ ad, q.A = some ad → ad.block < gb) (h0 : w0.heap.size ≤ gb) (cs : Array Value) : RR w0 (w.setRow gb cs) g q s :=
  h.kept (R := fun i => i = gb) ((Kept.of_grown (only_setRow w gb cs)).mono fun i _ e => by simpa using e.symm) (fun e => hg e) (fun hn ad e e' => by have := hA hn ad e; have h2 : ad.block = gb := e'; omega) (fun i e => by have h2 : i = gb := e; omega)
theorem kept_putRow {w v : World} {g gb : Nat} (h : Kept (fun i => i = g) w v) (hb : w.heap.size ≤ gb) (cs : Array Value) : Kept (fun i => i = g) w (v.setRow gb cs) :=
  h.trans ((Kept.of_grown (only_setRow v gb cs)).mono (T := fun i => i = gb) fun i _ e => by simpa using e.symm) (fun i hi e => absurd hi (by have h2 : i = gb := e; omega))
end Go.Proofs.YtljedcfpbdompaaDoor
namespace Go.Proofs.YtljedcfpbdompaaDoor
set_option linter.unusedVariables false
open Go.RowKit Go.ChangeShapes Go.WideShapes

theorem body_facts {W : World} {g : Nat} {a b c d e f h i j : Value} (x : Blk W g 67 #[a, b, c, d, e, f, h, i, j]) : W.cell? ⟨g, 0, none⟩ = some a ∧ W.cell? ⟨g, 1, none⟩ = some b ∧ W.cell? ⟨g, 2, none⟩ = some c ∧ W.cell? ⟨g, 3, none⟩ = some d ∧ W.cell? ⟨g, 4, none⟩ = some e ∧ W.cell? ⟨g, 5, none⟩ = some f ∧ W.cell? ⟨g, 6, none⟩ = some h ∧ W.cell? ⟨g, 7, none⟩ = some i ∧ W.cell? ⟨g, 8, none⟩ = some j :=
  ⟨x.cell 0, x.cell 1, x.cell 2, x.cell 3, x.cell 4, x.cell 5, x.cell 6, x.cell 7, x.cell 8⟩
set_option maxRecDepth 100000 in
set_option maxHeartbeats 4000000 in
theorem readSummary_any (t : Int) (ht : t = 3 ∨ t = 4) (w0 w : World) (g : Nat) (q : Rq) (xs : List Int) (h : RR w0 w g q ⟨xs, 0, 0⟩) :
    Calls Tryd.prog 70 #[.pointer (some ⟨g, 0, none⟩)] w fun e w' => RdP w0 w w' g q t xs e := by
  obtain ⟨s, hs⟩ : ∃ s : Rd, s = ⟨xs, 0, 0⟩ := ⟨_, rfl⟩
  rw [← hs] at h
  have HS := Lib.hid hs
  clear hs
  have hgl : g < w.heap.size := h.rs.blk.lt
  have HA := Lib.hid (And.intro h.rs.addr (And.intro h.b.size (h.rs.len)))
  have hb0 : Below w.heap.size w (w.alloc (.cells #[.int .u8 0, .slice none 0 0, .int .u32 0, .slice none 0 0, .int .u32 0, .bool false, .int .u32 0, .int .u32 0, .slice none 0 0] 67)) := (Below.refl _ _).alloc (Nat.le_refl _) _
  have HR := Lib.hid (h.later hb0)
  have HK := Lib.hid (Kept.of_new hb0 (fun i => i = g))
  have HZ := Lib.hid (Blk.new w 67 #[.int .u8 0, .slice none 0 0, .int .u32 0, .slice none 0 0, .int .u32 0, .bool false, .int .u32 0, .int .u32 0, .slice none 0 0])
  have HG := Lib.hid hgl
  clear h hgl hb0
  go_enter Tryd.func70, Tryd.ntmps70
  go_wp2_with fail
  generalize hgr : w.heap.size = gr at *
  generalize w.alloc (.cells #[.int .u8 0, .slice none 0 0, .int .u32 0, .slice none 0 0, .int .u32 0, .bool false, .int .u32 0, .int .u32 0, .slice none 0 0] 67) = w1 at *
  have hgrg : Hid (gr ≠ g) := Lib.hid (by have := HG.out; omega)
  have HGR := Lib.hid hgr
  clear hgr
  refine (rr_numx w0 w1 g q s HR.out 4 (by decide) (by decide)).mono ?_
  rintro e v1 ⟨x1, s1, rfl, hN, hr, hk⟩
  have HN1 := Lib.hid hN
  have hx1 := And.intro hN.lo hN.hi
  replace HR := Lib.hid hr
  replace HK := Lib.hid (HK.out.trans hk (fun _ _ e => e))
  replace HZ := Lib.hid (HZ.out.kept hk hgrg.out)
  clear hr hk hN
  go_wp2_with fail
  refine (rr_numx w0 v1 g q s1 HR.out 4 (by decide) (by decide)).mono ?_
  rintro e v2 ⟨x2, s2, rfl, hN, hr, hk⟩
  have HN2 := Lib.hid hN
  have hx2 := And.intro hN.lo hN.hi
  replace HR := Lib.hid hr
  replace HK := Lib.hid (HK.out.trans hk (fun _ _ e => e))
  replace HZ := Lib.hid (HZ.out.kept hk hgrg.out)
  clear hr hk hN
  go_wp2_with (refine wpList_store_row rfl 67 _ _ rfl gr #[.int .u8 0, .slice none 0 0, .int .u32 x1, .slice none 0 0, .int .u32 x2, .bool false, .int .u32 0, .int .u32 0, .slice none 0 0] rfl rfl 67 _ HZ.out info_body rfl (by simp [Value.oneCell']) ?_)
  refine bodyPost_ret (results_cell_row rfl _ _ gr 67 #[.int .u8 0, .slice none 0 0, .int .u32 x1, .slice none 0 0, .int .u32 x2, .bool false, .int .u32 0, .int .u32 0, .slice none 0 0] (0, 0) _ rfl (HZ.out.setRow _) Tryd.underlying67 rfl info_body) rfl ⟨⟨0, none, 0, 0, [], x1, none, 0, 0, [], x2, false, 0, 0, none, 0, 0, []⟩, s2, rfl, ?_, ?_, ?_, ?_, ?_, ?_⟩
  · exact HR.out.putRow (fun e => hgrg.out e.symm) HA.out.1 HA.out.2.1 _
  · exact ⟨⟨by simp, Reads.none_, rfl, by simp, by simp only; omega, Reads.none_, rfl, by simp, by simp only; omega, by simp, by simp, Reads.none_, (fun i x hx => by simp at hx), by simp, by simp⟩, own_nil _ _ _ _, own_nil _ _ _ _, own_nil _ _ _ _⟩
  · exact kept_putRow HK.out (by rw [HGR.out]; exact Nat.le_refl _) _
  · rw [HN2.out.xs, HN1.out.xs, HS.out]
  · rintro ⟨he, hl⟩
    obtain ⟨e2, l2, rfl, rfl⟩ := HN2.out.yes he
    obtain ⟨e1, l1, rfl, rfl⟩ := HN1.out.yes e2
    have hs := HS.out
    subst hs
    rw [left_of] at hl
    simp only at hl l1 l2
    refine ⟨?_, ?_⟩
    · rcases ht with rfl | rfl <;> unfold fitB <;> simp <;> omega
    · rcases ht with rfl | rfl <;> constructor <;> simp
  · intro hf
    have hl : xs.length = 8 := by rcases ht with rfl | rfl <;> unfold fitB at hf <;> simpa using hf
    have hs := HS.out
    subst hs
    obtain ⟨rfl, rfl⟩ := HN1.out.fit rfl (by simp only; omega)
    obtain ⟨rfl, rfl⟩ := HN2.out.fit rfl (by simp only; omega)
    refine ⟨rfl, ?_⟩
    rw [left_of, hl]
    rfl
set_option maxRecDepth 100000 in
set_option maxHeartbeats 4000000 in
theorem readOuter_any (t : Int) (ht : t = 5 ∨ t = 7) (w0 w : World) (g : Nat) (q : Rq) (xs : List Int) (h : RR w0 w g q ⟨xs, 0, 0⟩) :
    Calls Tryd.prog 72 #[.pointer (some ⟨g, 0, none⟩)] w fun e w' => RdP w0 w w' g q t xs e := by
  obtain ⟨s, hs⟩ : ∃ s : Rd, s = ⟨xs, 0, 0⟩ := ⟨_, rfl⟩
  rw [← hs] at h
  have HS := Lib.hid hs
  clear hs
  have hgl : g < w.heap.size := h.rs.blk.lt
  have HA := Lib.hid (And.intro h.rs.addr (And.intro h.b.size (h.rs.len)))
  have hb0 : Below w.heap.size w (w.alloc (.cells #[.int .u8 0, .slice none 0 0, .int .u32 0, .slice none 0 0, .int .u32 0, .bool false, .int .u32 0, .int .u32 0, .slice none 0 0] 67)) := (Below.refl _ _).alloc (Nat.le_refl _) _
  have HR := Lib.hid (h.later hb0)
  have HK := Lib.hid (Kept.of_new hb0 (fun i => i = g))
  have HZ := Lib.hid (Blk.new w 67 #[.int .u8 0, .slice none 0 0, .int .u32 0, .slice none 0 0, .int .u32 0, .bool false, .int .u32 0, .int .u32 0, .slice none 0 0])
  have HG := Lib.hid hgl
  clear h hgl hb0
  go_enter Tryd.func72, Tryd.ntmps72
  go_wp2_with fail
  generalize hgr : w.heap.size = gr at *
  generalize w.alloc (.cells #[.int .u8 0, .slice none 0 0, .int .u32 0, .slice none 0 0, .int .u32 0, .bool false, .int .u32 0, .int .u32 0, .slice none 0 0] 67) = w1 at *
  have hgrg : Hid (gr ≠ g) := Lib.hid (by have := HG.out; omega)
  have HGR := Lib.hid hgr
  clear hgr
  refine (rr_numx w0 w1 g q s HR.out 4 (by decide) (by decide)).mono ?_
  rintro e v1 ⟨x1, s1, rfl, hN, hr, hk⟩
  have HN1 := Lib.hid hN
  have hx1 := And.intro hN.lo hN.hi
  replace HR := Lib.hid hr
  replace HK := Lib.hid (HK.out.trans hk (fun _ _ e => e))
  replace HZ := Lib.hid (HZ.out.kept hk hgrg.out)
  clear hr hk hN
  go_wp2_with (refine wpList_store_row rfl 67 _ _ rfl v1.heap.size #[.int .u8 0, .slice none 0 0, .int .u32 x1, .slice none 0 0, .int .u32 0, .bool false, .int .u32 0, .int .u32 0, .slice none 0 0] rfl rfl 67 _ (heap_alloc_new v1 _) info_body rfl (by simp [Value.oneCell']) ?_; rw [World.setRow_alloc_new])
  have hb1 : Below v1.heap.size v1 (v1.alloc (.cells #[.int .u8 0, .slice none 0 0, .int .u32 x1, .slice none 0 0, .int .u32 0, .bool false, .int .u32 0, .int .u32 0, .slice none 0 0] 67)) := (Below.refl _ _).alloc (Nat.le_refl _) _
  replace HR := Lib.hid (HR.out.later hb1)
  replace HK := Lib.hid (HK.out.trans (Kept.of_new hb1 (fun i => i = g)) (fun _ _ e => e))
  have hgb := HZ.out.lt
  have hgg := HR.out.rs.blk.lt
  have hvg : g < v1.heap.size := by have h1 := HG.out; have h2 := HK.out.size; have h3 := HGR.out; omega
  replace HZ := Lib.hid (HZ.out.later hb1)
  have HB := Lib.hid (Blk.new v1 67 #[.int .u8 0, .slice none 0 0, .int .u32 x1, .slice none 0 0, .int .u32 0, .bool false, .int .u32 0, .int .u32 0, .slice none 0 0])
  have hgbg : Hid (v1.heap.size ≠ g) := Lib.hid (by omega)
  have hgbr : Hid (gr < v1.heap.size) := Lib.hid hgb
  clear hb1 hgb hgg hvg
  generalize v1.heap.size = gb at *
  generalize v1.alloc (.cells #[.int .u8 0, .slice none 0 0, .int .u32 x1, .slice none 0 0, .int .u32 0, .bool false, .int .u32 0, .int .u32 0, .slice none 0 0] 67) = w2 at *
  refine (rr_numx w0 w2 g q s1 HR.out 1 (by decide) (by decide)).mono ?_
  rintro e v2 ⟨x2, s2, rfl, hN, hr, hk⟩
  have HN2 := Lib.hid hN
  have hx2 := And.intro hN.lo hN.hi
  replace HR := Lib.hid hr
  replace HK := Lib.hid (HK.out.trans hk (fun _ _ e => e))
  replace HZ := Lib.hid (HZ.out.kept hk hgrg.out)
  replace HB := Lib.hid (HB.out.kept hk hgbg.out)
  clear hr hk hN
  have y5 := HB.out.cell 5
  have z5 := HB.out.frozen 5
  go_wp2_with fail
  clear y5 z5
  replace HR := Lib.hid (HR.out.put (gb := gb) (fun e => hgbg.out e.symm) (fun hn ad e => Nat.lt_trans (HA.out.1 hn ad e) hgbr.out) (Nat.le_trans HA.out.2.1 (Nat.le_of_lt hgbr.out)) 5 (.bool (x2 == 128)))
  replace HK := Lib.hid (HK.out.setCell (p := ⟨gb, 5, none⟩) (fun hlt => absurd hlt (by have := hgbr.out; have h2 := HGR.out; simp only; omega)) (.bool (x2 == 128)))
  replace HZ := Lib.hid (HZ.out.far (p := ⟨gb, 5, none⟩) (by have := hgbr.out; simp only; omega) (.bool (x2 == 128)))
  replace HB := Lib.hid (show Blk (v2.setCell ⟨gb, 5, none⟩ (.bool (x2 == 128))) gb 67 #[.int .u8 0, .slice none 0 0, .int .u32 x1, .slice none 0 0, .int .u32 0, .bool (x2 == 128), .int .u32 0, .int .u32 0, .slice none 0 0] from HB.out.set_ 5 _)
  generalize v2.setCell ⟨gb, 5, none⟩ (.bool (x2 == 128)) = u2 at *
  refine (rr_numx w0 u2 g q s2 HR.out 3 (by decide) (by decide)).mono ?_
  rintro e v3 ⟨x3, s3, rfl, hN, hr, hk⟩
  have HN3 := Lib.hid hN
  have hx3 := And.intro hN.lo hN.hi
  replace HR := Lib.hid hr
  replace HK := Lib.hid (HK.out.trans hk (fun _ _ e => e))
  replace HZ := Lib.hid (HZ.out.kept hk hgrg.out)
  replace HB := Lib.hid (HB.out.kept hk hgbg.out)
  clear hr hk hN
  go_wp2_with fail
  refine (rr_numx w0 v3 g q s3 HR.out 4 (by decide) (by decide)).mono ?_
  rintro e v4 ⟨x4, s4, rfl, hN, hr, hk⟩
  have HN4 := Lib.hid hN
  have hx4 := And.intro hN.lo hN.hi
  replace HR := Lib.hid hr
  replace HK := Lib.hid (HK.out.trans hk (fun _ _ e => e))
  replace HZ := Lib.hid (HZ.out.kept hk hgrg.out)
  replace HB := Lib.hid (HB.out.kept hk hgbg.out)
  clear hr hk hN
  go_wp2_with fail
  refine (rr_numx w0 v4 g q s4 HR.out 4 (by decide) (by decide)).mono ?_
  rintro e v5 ⟨x5, s5, rfl, hN, hr, hk⟩
  have HN5 := Lib.hid hN
  have hx5 := And.intro hN.lo hN.hi
  replace HR := Lib.hid hr
  replace HK := Lib.hid (HK.out.trans hk (fun _ _ e => e))
  replace HZ := Lib.hid (HZ.out.kept hk hgrg.out)
  replace HB := Lib.hid (HB.out.kept hk hgbg.out)
  clear hr hk hN
  have y4 := HB.out.cell 4
  have y6 := HB.out.cell 6
  have y7 := HB.out.cell 7
  have z4 := HB.out.frozen 4
  have z6 := HB.out.frozen 6
  have z7 := HB.out.frozen 7
  have hA2 : 0 < q.n → ∀ ad, q.A = some ad → ad.block < gb := fun hn ad e => Nat.lt_trans (HA.out.1 hn ad e) hgbr.out
  have h02 : w0.heap.size ≤ gb := Nat.le_trans HA.out.2.1 (Nat.le_of_lt hgbr.out)
  have hwg : w.heap.size ≤ gb := by have := hgbr.out; have h2 := HGR.out; omega
  have hgg : g ≠ gb := fun e => hgbg.out e.symm
  have hrg : gr ≠ gb := Nat.ne_of_lt hgbr.out
  have HR3 := Lib.hid (((HR.out.put hgg hA2 h02 4 (.int .u32 x3)).put hgg hA2 h02 6 (.int .u32 x4)).put hgg hA2 h02 7 (.int .u32 x5))
  have HK3 := Lib.hid (((HK.out.setCell (p := ⟨gb, 4, none⟩) (fun hlt => absurd hlt (by simp only; omega)) (.int .u32 x3)).setCell (p := ⟨gb, 6, none⟩) (fun hlt => absurd hlt (by simp only; omega)) (.int .u32 x4)).setCell (p := ⟨gb, 7, none⟩) (fun hlt => absurd hlt (by simp only; omega)) (.int .u32 x5))
  have HZ3 := Lib.hid (((HZ.out.far (p := ⟨gb, 4, none⟩) hrg (.int .u32 x3)).far (p := ⟨gb, 6, none⟩) hrg (.int .u32 x4)).far (p := ⟨gb, 7, none⟩) hrg (.int .u32 x5))
  have HB3 : Hid (Blk (((v5.setCell ⟨gb, 4, none⟩ (.int .u32 x3)).setCell ⟨gb, 6, none⟩ (.int .u32 x4)).setCell ⟨gb, 7, none⟩ (.int .u32 x5)) gb 67 #[.int .u8 0, .slice none 0 0, .int .u32 x1, .slice none 0 0, .int .u32 x3, .bool (x2 == 128), .int .u32 x4, .int .u32 x5, .slice none 0 0]) := Lib.hid (((HB.out.set_ 4 (.int .u32 x3)).set_ 6 (.int .u32 x4)).set_ 7 (.int .u32 x5))
  obtain ⟨b0, b1, b2, b3, b4, b5, b6, b7, b8⟩ := body_facts HB3.out
  clear hA2 h02 hwg hgg hrg
  go_wp2_with (clear y4 y6 y7 z4 z6 z7 b0 b1 b2 b3 b4 b5 b6 b7 b8; generalize ((v5.setCell ⟨gb, 4, none⟩ (.int .u32 x3)).setCell ⟨gb, 6, none⟩ (.int .u32 x4)).setCell ⟨gb, 7, none⟩ (.int .u32 x5) = w3 at *; refine wpList_store_row rfl 67 _ _ rfl gr #[.int .u8 0, .slice none 0 0, .int .u32 x1, .slice none 0 0, .int .u32 x3, .bool (x2 == 128), .int .u32 x4, .int .u32 x5, .slice none 0 0] rfl rfl 67 _ HZ3.out info_body rfl (by simp [Value.oneCell']) ?_)
  refine bodyPost_ret (results_cell_row rfl _ _ gr 67 #[.int .u8 0, .slice none 0 0, .int .u32 x1, .slice none 0 0, .int .u32 x3, .bool (x2 == 128), .int .u32 x4, .int .u32 x5, .slice none 0 0] (0, 0) _ rfl (HZ3.out.setRow _) Tryd.underlying67 rfl info_body) rfl ⟨⟨0, none, 0, 0, [], x1, none, 0, 0, [], x3, x2 == 128, x4, x5, none, 0, 0, []⟩, s5, rfl, ?_, ?_, ?_, ?_, ?_, ?_⟩
  · exact HR3.out.putRow (fun e => hgrg.out e.symm) HA.out.1 HA.out.2.1 _
  · exact ⟨⟨by simp, Reads.none_, rfl, by simp, by simp only; omega, Reads.none_, rfl, by simp, by simp only; omega, by simp only; omega, by simp only; omega, Reads.none_, (fun i x hx => by simp at hx), by simp, by simp⟩, own_nil _ _ _ _, own_nil _ _ _ _, own_nil _ _ _ _⟩
  · exact kept_putRow HK3.out (by rw [HGR.out]; exact Nat.le_refl _) _
  · rw [HN5.out.xs, HN4.out.xs, HN3.out.xs, HN2.out.xs, HN1.out.xs, HS.out]
  · rintro ⟨he, hl⟩
    obtain ⟨e5, l5, rfl, rfl⟩ := HN5.out.yes he
    obtain ⟨e4, l4, rfl, rfl⟩ := HN4.out.yes e5
    obtain ⟨e3, l3, rfl, rfl⟩ := HN3.out.yes e4
    obtain ⟨e2, l2, rfl, rfl⟩ := HN2.out.yes e3
    obtain ⟨e1, l1, rfl, rfl⟩ := HN1.out.yes e2
    have hs := HS.out
    subst hs
    rw [left_of] at hl
    simp only at hl l1 l2 l3 l4 l5
    refine ⟨?_, ?_⟩
    · rcases ht with rfl | rfl <;> unfold fitB <;> simp <;> omega
    · rcases ht with rfl | rfl <;> constructor <;> first | (simp; done) | (simp; rfl)
  · intro hf
    have hl : xs.length = 16 := by rcases ht with rfl | rfl <;> unfold fitB at hf <;> simpa using hf
    have hs := HS.out
    subst hs
    obtain ⟨rfl, rfl⟩ := HN1.out.fit rfl (by simp only; omega)
    obtain ⟨rfl, rfl⟩ := HN2.out.fit rfl (by simp only; omega)
    obtain ⟨rfl, rfl⟩ := HN3.out.fit rfl (by simp only; omega)
    obtain ⟨rfl, rfl⟩ := HN4.out.fit rfl (by simp only; omega)
    obtain ⟨rfl, rfl⟩ := HN5.out.fit rfl (by simp only; omega)
    refine ⟨rfl, ?_⟩
    rw [left_of, hl]
    rfl
end Go.Proofs.YtljedcfpbdompaaDoor
namespace Go.Proofs.YtljedcfpbdompaaDoor
set_option linter.unusedVariables false
open Go.RowKit Go.ChangeShapes Go.WideShapes

set_option maxRecDepth 100000 in
set_option maxHeartbeats 4000000 in
theorem rr_bytes (w0 w : World) (g : Nat) (q : Rq) (xs : List Int) (h : RR w0 w g q ⟨xs, 0, 0⟩) (hn : xs.length ≤ 1073741824) :
    Calls Tryd.prog 81 #[.pointer (some ⟨g, 0, none⟩), .int .i64 (xs.length : Int)] w fun e w' => ∃ v, e = .returned v ∧ w'.ownsRow w.heap.size 5 1 v xs.length (u8s xs) ∧ RR w0 w' g q ⟨xs, xs.length, 0⟩ ∧ Kept (fun i => i = g) w w' := by
  have hnx : (⟨xs, 0, 0⟩ : Rd).next (xs.length : Int) = (some xs, ⟨xs, xs.length, 0⟩) := by
    unfold Rd.next
    rw [if_pos rfl, if_neg (by omega), if_neg (by simp)]
    simp
  have HN := next_any w g q.A q.n q.c ⟨xs, 0, 0⟩ xs.length h.rs (by omega) (by omega)
  have HN2 : Hid (Calls Tryd.prog 63 #[.pointer (some ⟨g, 0, none⟩), .int .i64 (xs.length : Int)] w fun e w' => ∃ A', e = .returned (.tuple #[.slice A' xs.length xs.length, .bool true]) ∧ Reads w' w'.heap.size 1 A' xs.length (u8s xs) ∧ RS w' g q.A q.n q.c ⟨xs, xs.length, 0⟩ ∧ Kept (fun i => i = g) w w') := by
    refine HN.mono ?_
    intro e w' hq
    unfold NextPost at hq
    rw [hnx] at hq
    obtain ⟨h1, h2, A', he, hr, _⟩ := hq
    simp only [Int.toNat_natCast] at he hr
    exact ⟨A', he, hr, h1, h2⟩
  have HR := Lib.hid h
  clear HN h
  go_enter Tryd.func81, Tryd.ntmps81
  go_wp2_with fail
  refine HN2.out.mono ?_
  rintro e w1 ⟨A', rfl, hr, hs, hk⟩
  have H1 := Lib.hid (And.intro hs hk)
  have HQ := Lib.hid hr
  clear hr hs hk
  go_wp2_with fail
  refine (clone_any A' xs.length xs.length xs w1 HQ.out (by omega)).mono ?_
  rintro e w2 ⟨v, rfl, ho, hb⟩
  have H2 := Lib.hid (And.intro ho hb)
  clear ho hb
  go_wp2_with fail
  go_ret
  have hk2 : Kept (fun i => i = g) w w2 := H1.out.2.trans (Kept.of_new H2.out.2 _) (fun _ _ e => e)
  exact ⟨v, rfl, own_mono H2.out.1 H1.out.2.size, ⟨H1.out.1.kept (Kept.of_new H2.out.2 (fun _ => False)) (fun h => h) (fun _ _ _ h => h), HR.out.oct, HR.out.g0, HR.out.b.trans (hk2.below (fun i e => e ▸ HR.out.g0) HR.out.b.size)⟩, hk2⟩
set_option maxRecDepth 100000 in
set_option maxHeartbeats 4000000 in
theorem readOpaque_any (t : Int) (ht : t = 9 ∨ t = 10 ∨ t = 11) (w0 w : World) (g : Nat) (q : Rq) (xs : List Int) (h : RR w0 w g q ⟨xs, 0, 0⟩) (hn : xs.length ≤ 1073741824) :
    Calls Tryd.prog 74 #[.pointer (some ⟨g, 0, none⟩)] w fun e w' => RdP w0 w w' g q t xs e := by
  have hgl : g < w.heap.size := h.rs.blk.lt
  have HA := Lib.hid (And.intro h.rs.addr (And.intro h.b.size (h.rs.len)))
  have hb0 : Below w.heap.size w (w.alloc (.cells #[.int .u8 0, .slice none 0 0, .int .u32 0, .slice none 0 0, .int .u32 0, .bool false, .int .u32 0, .int .u32 0, .slice none 0 0] 67)) := (Below.refl _ _).alloc (Nat.le_refl _) _
  have HR := Lib.hid (h.later hb0)
  have HK := Lib.hid (Kept.of_new hb0 (fun i => i = g))
  have HZ := Lib.hid (Blk.new w 67 #[.int .u8 0, .slice none 0 0, .int .u32 0, .slice none 0 0, .int .u32 0, .bool false, .int .u32 0, .int .u32 0, .slice none 0 0])
  have HG := Lib.hid hgl
  clear h hgl hb0
  go_enter Tryd.func74, Tryd.ntmps74
  go_wp2_with fail
  generalize hgr : w.heap.size = gr at *
  generalize w.alloc (.cells #[.int .u8 0, .slice none 0 0, .int .u32 0, .slice none 0 0, .int .u32 0, .bool false, .int .u32 0, .int .u32 0, .slice none 0 0] 67) = w1 at *
  have hgrg : Hid (gr ≠ g) := Lib.hid (by have := HG.out; omega)
  have HGR := Lib.hid hgr
  clear hgr
  refine (rr_left w0 w1 g q _ HR.out).mono ?_
  rintro e w2 ⟨rfl, k, rfl⟩
  replace HR := Lib.hid (HR.out.drewN k)
  replace HK := Lib.hid (HK.out.drewN k)
  replace HZ := Lib.hid (show Blk (w1.drewN k) gr 67 _ from HZ.out)
  generalize w1.drewN k = v2 at *
  have HS2 := Lib.hid HK.out.size
  go_wp2_with fail
  rw [left_of, show (xs.length : Int) - ((0 : Nat) : Int) = xs.length by omega]
  refine (rr_bytes w0 v2 g q xs HR.out hn).mono ?_
  rintro e v3 ⟨u, rfl, hu, hr, hk⟩
  obtain ⟨A, c, rfl, hc1, hc2, hrd⟩ := own_shape hu
  have HU := Lib.hid (And.intro hu (And.intro hc1 (And.intro hc2 hrd)))
  replace HR := Lib.hid hr
  replace HK := Lib.hid (HK.out.trans hk (fun _ _ e => e))
  have HZl := Lib.hid HZ.out.lt
  replace HZ := Lib.hid (HZ.out.kept hk hgrg.out)
  clear hr hk hu hc1 hc2 hrd
  go_wp2_with (refine wpList_store_row rfl 67 _ _ rfl gr #[.int .u8 0, .slice none 0 0, .int .u32 0, .slice none 0 0, .int .u32 0, .bool false, .int .u32 0, .int .u32 0, .slice A xs.length c] rfl rfl 67 _ HZ.out info_body rfl (by simp [Value.oneCell']) ?_)
  refine bodyPost_ret (results_cell_row rfl _ _ gr 67 #[.int .u8 0, .slice none 0 0, .int .u32 0, .slice none 0 0, .int .u32 0, .bool false, .int .u32 0, .int .u32 0, .slice A xs.length c] (0, 0) _ rfl (HZ.out.setRow _) Tryd.underlying67 rfl info_body) rfl ⟨⟨0, none, 0, 0, [], 0, none, 0, 0, [], 0, false, 0, 0, A, xs.length, c, xs⟩, _, rfl, HR.out.putRow (fun e => hgrg.out e.symm) HA.out.1 HA.out.2.1 _, ?_, kept_putRow HK.out (by rw [HGR.out]; exact Nat.le_refl _) _, rfl, ?_, ?_⟩
  · have ho := own_kept HU.out.1 ((Kept.of_grown (only_setRow v3 gr #[.int .u8 0, .slice none 0 0, .int .u32 0, .slice none 0 0, .int .u32 0, .bool false, .int .u32 0, .int .u32 0, .slice A xs.length c])).mono (T := fun i => i = gr) fun i _ e => by simpa using e.symm) (fun i hi e => by have h1 := (own_ge HU.out.1 hi).1; have h2 := HZl.out; have h3 : i = gr := e; omega)
    exact ⟨⟨by simp, Reads.none_, rfl, by simp, by simp, Reads.none_, rfl, by simp, by simp, by simp, by simp, Reads.of_own ho, HR.out.oct, by have := HU.out.2; simp only; omega, by simp only; omega⟩, own_nil _ _ _ _, own_nil _ _ _ _, own_mono ho HS2.out⟩
  · intro _
    refine ⟨?_, ?_⟩
    · rcases ht with rfl | rfl | rfl <;> unfold fitB <;> simp
    · rcases ht with rfl | rfl | rfl <;> constructor <;> simp
  · intro _
    refine ⟨rfl, ?_⟩
    rw [left_of]
    omega
end Go.Proofs.YtljedcfpbdompaaDoor
namespace Go.Proofs.YtljedcfpbdompaaDoor
set_option linter.unusedVariables false
open Go.RowKit Go.ChangeShapes Go.WideShapes

theorem el_u32 : El Tryd.prog 65 26 1 4 := El.mk' Tryd.underlying65 (z := .int .u32 0) (by kernel_rfl) rfl (by decide)
/-- How much a reader has left, told from memory. -/
def rdLeft (N : Nat) (W : World) (g : Nat) : Nat :=
  match W.cell? ⟨g, 1, none⟩, W.cell? ⟨g, 2, none⟩ with
  | some (.int _ p), some (.int _ e) => if e = 0 then 1 + (N - p.toNat) else 0
  | _, _ => 0
theorem rdLeft_eq {w0 W : World} {g : Nat} {q : Rq} {s : Rd} (h : RR w0 W g q s) (N : Nat) : rdLeft N W g = if s.e = 0 then 1 + (N - s.pos) else 0 := by
  have h1 := h.rs.blk.cell 1
  have h2 := h.rs.blk.cell 2
  simp at h1 h2
  unfold rdLeft
  rw [h1, h2]
  simp
theorem u32s_snoc (L : List Int) (x : Int) : u32s (L ++ [x]) = u32s L ++ [.int .u32 x] := by simp [u32s, List.flatMap_append]
theorem u32s_len (L : List Int) : (u32s L).length = L.length := by induction L with | nil => rfl | cons x L ih => (rw [show u32s (x :: L) = .int .u32 x :: u32s L from rfl]; simp [ih])
/-- How far the routers are read. -/
structure Pn (xs : List Int) (s : Rd) (L : List Int) : Prop where
  eq : s.xs = xs
  rng : ∀ x ∈ L, 0 ≤ x ∧ x ≤ 4294967295
  is : (s.e = 0 ∧ s.pos = 4 + 4 * L.length ∧ s.pos ≤ xs.length ∧ L = (List.range L.length).map (fun i => be ((xs.drop (4 + 4 * i)).take 4))) ∨ (s.e ≠ 0 ∧ ¬ fitB 2 xs ∧ 4 * L.length ≤ xs.length + 4)
theorem Pn.start {xs : List Int} {s s1 : Rd} {x : Int} (hs : s = ⟨xs, 0, 0⟩) (h : NumR s 4 x s1) : Pn xs s1 [] := by
  subst hs
  refine ⟨h.xs, by simp, ?_⟩
  rcases h.cases with ⟨_, hl, _, h2⟩ | ⟨h1, _, h3⟩
  · simp only at hl
    subst h2
    exact .inl ⟨rfl, rfl, by simp only; omega, by simp⟩
  · refine .inr ⟨h3, ?_, by simp⟩
    rcases h1 with h1 | h1
    · exact absurd rfl h1
    · simp only at h1
      unfold fitB
      simp
      omega
theorem Pn.push {xs : List Int} {s s2 : Rd} {L : List Int} {x : Int} (p : Pn xs s L) (he : s.e = 0) (hl : 0 < s.left) (h : NumR s 4 x s2) : Pn xs s2 (L ++ [x]) := by
  have hhi := h.hi
  have hlo := h.lo
  refine ⟨h.xs.trans p.eq, fun y hy => ?_, ?_⟩
  · rcases List.mem_append.mp hy with hy | hy
    · exact p.rng y hy
    · simp only [List.mem_singleton] at hy
      subst hy
      omega
  · have hx := p.eq
    rcases p.is with ⟨_, h2, h3, h4⟩ | ⟨h1, _⟩
    · have hlf : s.left = (s.xs.length : Int) - s.pos := by unfold Rd.left; rw [if_pos he]
      rw [hx] at hlf
      rcases h.cases with ⟨_, hl2, hv, h5⟩ | ⟨h5, _, h6⟩
      · rw [hx] at hl2 hv h5
        subst h5
        refine .inl ⟨rfl, by simp only [List.length_append, List.length_singleton]; omega, by simp only; omega, ?_⟩
        rw [List.length_append, List.length_singleton, List.range_succ, List.map_append, ← h4, hv, h2]
        rfl
      · refine .inr ⟨h6, ?_, by simp only [List.length_append, List.length_singleton]; omega⟩
        rcases h5 with h5 | h5
        · exact absurd he h5
        · rw [hx] at h5
          unfold fitB
          simp
          omega
    · exact absurd he h1
/-- The loop over the routers. -/
structure RnI (w0 w : World) (g gr gb : Nat) (q : Rq) (xs : List Int) (x1 : Int) (W : World) : Prop where
  ex : ∃ s A n c L, RR w0 W g q s ∧ Hid (Blk W gr 67 #[.int .u8 0, .slice none 0 0, .int .u32 0, .slice none 0 0, .int .u32 0, .bool false, .int .u32 0, .int .u32 0, .slice none 0 0]) ∧
    Hid (Blk W gb 67 #[.int .u8 0, .slice none 0 0, .int .u32 x1, .slice A n c, .int .u32 0, .bool false, .int .u32 0, .int .u32 0, .slice none 0 0]) ∧
    Hid (W.ownsRow w.heap.size 26 1 (.slice A n c) n (u32s L)) ∧ Hid (Kept (fun i => i = g) w W) ∧ Hid (Pn xs s L)
set_option maxRecDepth 100000 in
set_option maxHeartbeats 8000000 in
theorem readNetwork_any (w0 w : World) (g : Nat) (q : Rq) (xs : List Int) (h : RR w0 w g q ⟨xs, 0, 0⟩) (hn : xs.length ≤ 1073741824) :
    Calls Tryd.prog 68 #[.pointer (some ⟨g, 0, none⟩)] w fun e w' => RdP w0 w w' g q 2 xs e := by
  obtain ⟨s, hs⟩ : ∃ s : Rd, s = ⟨xs, 0, 0⟩ := ⟨_, rfl⟩
  rw [← hs] at h
  have HS := Lib.hid hs
  clear hs
  have hgl : g < w.heap.size := h.rs.blk.lt
  have HA := Lib.hid (And.intro h.rs.addr (And.intro h.b.size (h.rs.len)))
  have hb0 : Below w.heap.size w (w.alloc (.cells #[.int .u8 0, .slice none 0 0, .int .u32 0, .slice none 0 0, .int .u32 0, .bool false, .int .u32 0, .int .u32 0, .slice none 0 0] 67)) := (Below.refl _ _).alloc (Nat.le_refl _) _
  have HR := Lib.hid (h.later hb0)
  have HK := Lib.hid (Kept.of_new hb0 (fun i => i = g))
  have HZ := Lib.hid (Blk.new w 67 #[.int .u8 0, .slice none 0 0, .int .u32 0, .slice none 0 0, .int .u32 0, .bool false, .int .u32 0, .int .u32 0, .slice none 0 0])
  have HG := Lib.hid hgl
  clear h hgl hb0
  go_enter Tryd.func68, Tryd.ntmps68
  go_wp2_with fail
  generalize hgr : w.heap.size = gr at *
  generalize w.alloc (.cells #[.int .u8 0, .slice none 0 0, .int .u32 0, .slice none 0 0, .int .u32 0, .bool false, .int .u32 0, .int .u32 0, .slice none 0 0] 67) = w1 at *
  have hgrg : Hid (gr ≠ g) := Lib.hid (by have := HG.out; omega)
  have HGR := Lib.hid hgr
  clear hgr
  refine (rr_numx w0 w1 g q s HR.out 4 (by decide) (by decide)).mono ?_
  rintro e v1 ⟨x1, s1, rfl, hN, hr, hk⟩
  have HN1 := Lib.hid hN
  have hx1 := And.intro hN.lo hN.hi
  replace HR := Lib.hid hr
  replace HK := Lib.hid (HK.out.trans hk (fun _ _ e => e))
  replace HZ := Lib.hid (HZ.out.kept hk hgrg.out)
  clear hr hk hN
  go_wp2_with (refine wpList_store_row rfl 67 _ _ rfl v1.heap.size #[.int .u8 0, .slice none 0 0, .int .u32 x1, .slice none 0 0, .int .u32 0, .bool false, .int .u32 0, .int .u32 0, .slice none 0 0] rfl rfl 67 _ (heap_alloc_new v1 _) info_body rfl (by simp [Value.oneCell']) ?_; rw [World.setRow_alloc_new])
  have hb1 : Below v1.heap.size v1 (v1.alloc (.cells #[.int .u8 0, .slice none 0 0, .int .u32 x1, .slice none 0 0, .int .u32 0, .bool false, .int .u32 0, .int .u32 0, .slice none 0 0] 67)) := (Below.refl _ _).alloc (Nat.le_refl _) _
  replace HR := Lib.hid (HR.out.later hb1)
  replace HK := Lib.hid (HK.out.trans (Kept.of_new hb1 (fun i => i = g)) (fun _ _ e => e))
  have hgb := HZ.out.lt
  have hvg : g < v1.heap.size := by have h1 := HG.out; omega
  replace HZ := Lib.hid (HZ.out.later hb1)
  have HB := Lib.hid (Blk.new v1 67 #[.int .u8 0, .slice none 0 0, .int .u32 x1, .slice none 0 0, .int .u32 0, .bool false, .int .u32 0, .int .u32 0, .slice none 0 0])
  have hgbg : Hid (v1.heap.size ≠ g) := Lib.hid (by omega)
  have hgbr : Hid (gr < v1.heap.size) := Lib.hid hgb
  clear hb1 hgb hvg
  generalize v1.heap.size = gb at *
  generalize v1.alloc (.cells #[.int .u8 0, .slice none 0 0, .int .u32 x1, .slice none 0 0, .int .u32 0, .bool false, .int .u32 0, .int .u32 0, .slice none 0 0] 67) = w2 at *
  go_simp
  go_loopw [] (RnI w0 w g gr gb q xs x1) (fun W => rdLeft xs.length W g)
  case atStart => exact ⟨s1, none, 0, 0, [], HR.out, HZ, HB, Lib.hid (by simp [World.ownsRow, u32s]), HK, Lib.hid (Pn.start HS.out HN1.out)⟩
  case round =>
    obtain ⟨s2, A, n, c, L, hr, HZ2, HB2, HO2, HK2, HP⟩ := hrel
    have HR2 := Lib.hid hr
    clear hr HR HZ HB HK
    go_wp2_with fail
    have HM : Hid (rdLeft xs.length wr g = if s2.e = 0 then 1 + (xs.length - s2.pos) else 0) := Lib.hid (rdLeft_eq HR2.out _)
    refine (rr_left w0 wr g q s2 HR2.out).mono ?_
    rintro e w3 ⟨rfl, k, rfl⟩
    replace HR2 := Lib.hid (HR2.out.drewN k)
    replace HK2 := Lib.hid (HK2.out.drewN k)
    replace HZ2 := Lib.hid (show Blk (wr.drewN k) gr 67 #[.int .u8 0, .slice none 0 0, .int .u32 0, .slice none 0 0, .int .u32 0, .bool false, .int .u32 0, .int .u32 0, .slice none 0 0] from HZ2.out)
    replace HB2 := Lib.hid (show Blk (wr.drewN k) gb 67 #[.int .u8 0, .slice none 0 0, .int .u32 x1, .slice A n c, .int .u32 0, .bool false, .int .u32 0, .int .u32 0, .slice none 0 0] from HB2.out)
    replace HO2 := Lib.hid (own_kept HO2.out ((Kept.refl (fun _ => False) wr).drewN k) (fun _ _ h => h))
    generalize wr.drewN k = w3 at *
    obtain ⟨lf, hlf⟩ : ∃ lf, s2.left = lf := ⟨_, rfl⟩
    rw [hlf]
    have HLf := Lib.hid hlf
    clear hlf
    by_cases hl : 0 < lf
    · have he : s2.e = 0 := by
        rcases Decidable.em (s2.e = 0) with h | h
        · exact h
        · have h2 := HLf.out
          unfold Rd.left at h2
          rw [if_neg h] at h2
          omega
      have hd : decide (0 < lf) = true := decide_eq_true hl
      have HE := Lib.hid he
      clear he
      go_wp2_with fail
      refine (rr_err w0 w3 g q s2 HR2.out).mono ?_
      rintro e w4 ⟨rfl, rfl⟩
      rw [HE.out]
      go_wp2_with fail
      have HS3 : Hid ((fun W : World => W.cell? ⟨gb, 3, none⟩ = some (.slice A n c)) w3) := Lib.hid (HB2.out.cell 3)
      refine wp_region_g (fun W : World => W.cell? ⟨gb, 3, none⟩ = some (.slice A n c)) [.take 0, .take 2, .take 1, .one 3, .one 4, .one 5, .take 6, .one 7] (by kernel_rfl) (fun _ d _ _ _ h => by cases d <;> exact h) ?_
      simp only [List.map_cons, List.map_nil, RStep.node, nthOp_zero, nthOp_succ]
      replace HS3 : Hid ((fun W : World => W.cell? ⟨gb, 3, none⟩ = some (.slice A n c)) w3.drew) := HS3
      replace HR2 := Lib.hid (show RR w0 w3.drew g q s2 from HR2.out.drewN 1)
      replace HK2 := Lib.hid (show Kept (fun i => i = g) w w3.drew from HK2.out.drewN 1)
      replace HZ2 := Lib.hid (show Blk w3.drew gr 67 #[.int .u8 0, .slice none 0 0, .int .u32 0, .slice none 0 0, .int .u32 0, .bool false, .int .u32 0, .int .u32 0, .slice none 0 0] from HZ2.out)
      replace HB2 := Lib.hid (show Blk w3.drew gb 67 #[.int .u8 0, .slice none 0 0, .int .u32 x1, .slice A n c, .int .u32 0, .bool false, .int .u32 0, .int .u32 0, .slice none 0 0] from HB2.out)
      replace HO2 := Lib.hid (own_kept HO2.out (show Kept (fun _ => False) w3 w3.drew from (Kept.refl (fun _ => False) w3).drewN 1) (fun _ _ h => h))
      generalize w3.drew = w3 at *
      refine wpG_take HS3 (by rfl) (by intro W hW; go_simp; try with_reducible rfl) ?_
      refine wpG_take HS3 (by rfl) (by intro W hW; go_simp; try with_reducible rfl) ?_
      refine wpG_take HS3 (by rfl) (by intro W hW; go_simp; try with_reducible rfl) ?_
      go_simp
      refine wpG_do fun K hK => ?_
      go_wp2_with fail
      refine (rr_numx w0 w3 g q s2 HR2.out 4 (by decide) (by decide)).mono ?_
      rintro e w4 ⟨x, s4, rfl, hN4, hr4, hk4⟩
      have HN4 := Lib.hid hN4
      have HR4 := Lib.hid hr4
      have HK4 := Lib.hid (HK2.out.trans hk4 (fun _ _ e => e))
      have HZ4 := Lib.hid (HZ2.out.kept hk4 hgrg.out)
      have HB4 := Lib.hid (HB2.out.kept hk4 hgbg.out)
      have HO4 := Lib.hid (own_kept HO2.out hk4 (fun i hi e => by have h1 := (own_ge HO2.out hi).1; have h2 := HG.out; have h3 := HGR.out; have h4 : i = g := e; omega))
      have HS4 : Hid ((fun W : World => W.cell? ⟨gb, 3, none⟩ = some (.slice A n c)) w4) := Lib.hid (HB4.out.cell 3)
      clear hN4 hr4 hk4
      go_wp2_with fail
      refine hK.out _ _ HS4.out ?_
      clear hK K
      refine wpG_do fun K hK => ?_
      go_wp2_with fail
      have hb5 : Below w4.heap.size w4 (w4.alloc (.cells #[.int .u32 x] 26)) := (Below.refl _ _).alloc (Nat.le_refl _) _
      have HRd : Hid (Reads (w4.alloc (.cells #[.int .u32 x] 26)) (w4.heap.size + 1) 1 (some ⟨w4.heap.size, 0, none⟩) 1 [.int .u32 x]) := Lib.hid (Reads.one_new _ _ _)
      have HR5 := Lib.hid (HR4.out.later hb5)
      have HK5 := Lib.hid (HK4.out.trans (Kept.of_new hb5 (fun i => i = g)) (fun _ _ e => e))
      have HZ5 := Lib.hid (HZ4.out.later hb5)
      have HB5 := Lib.hid (HB4.out.later hb5)
      have HO5 := Lib.hid (own_kept HO4.out (Kept.of_new hb5 (fun _ => False)) (fun _ _ h => h))
      have HS5 : Hid ((fun W : World => W.cell? ⟨gb, 3, none⟩ = some (.slice A n c)) (w4.alloc (.cells #[.int .u32 x] 26))) := Lib.hid (HB5.out.cell 3)
      refine hK.out _ _ HS5.out ?_
      clear hK K hb5
      generalize w4.alloc (.cells #[.int .u32 x] 26) = w5 at *
      generalize w4.heap.size = gx at *
      refine wpG_do fun K hK => ?_
      have hnl : L.length = n := by have h1 := HO2.out.1; rw [u32s_len] at h1; omega
      have hnb : 4 * n ≤ xs.length + 4 := by have h1 := HP.out.is; have h2 := HE.out; rw [hnl] at h1; omega
      refine wpList_app el_u32 rfl (.tmp 16) (.tmp 19) rfl HO5.out rfl HRd.out rfl (by simp [Value.oneCell']) (by simp only [maxLen]; omega) (by omega) (by have := HK5.out.size; exact this) ?_
      intro v5 w6 ho6 hb6 hg6 hn6
      rw [← u32s_snoc] at ho6
      have k6 := Kept.of_grown hg6
      have hog : ∀ i, (Value.slice A n c).ownBlock = some i → w.heap.size ≤ i := fun i hi => (own_ge HO5.out hi).1
      have HR6 := Lib.hid (HR5.out.kept k6 (fun e => by have h1 := hog g e; have h2 := HG.out; have h3 := HGR.out; omega) (fun hn ad e e' => by have h1 := hog _ e'; have h2 := HA.out.1 hn ad e; have h3 := HGR.out; omega) (fun i e => by have h1 := hog i e; have h2 := HA.out.2.1; have h3 := HGR.out; omega))
      have HK6 := Lib.hid (HK5.out.trans (k6.mono (T := fun i => w.heap.size ≤ i) fun i _ e => hog i e) (fun i hi e => absurd hi (by omega)))
      have HZ6 := Lib.hid (HZ5.out.kept k6 (fun e => own_blk_ne HO5.out HZ5.out (by decide) e))
      have HB6 := Lib.hid (HB5.out.kept k6 (fun e => own_blk_ne HO5.out HB5.out (by decide) e))
      have HS6 : Hid ((fun W : World => W.cell? ⟨gb, 3, none⟩ = some (.slice A n c)) w6) := Lib.hid (HB6.out.cell 3)
      obtain ⟨A5, c5, hv5, -, -, -⟩ := own_shape ho6
      subst hv5
      have HO6 := Lib.hid ho6
      clear ho6 hb6 hg6 hn6 k6 hog
      refine hK.out _ _ HS6.out ?_
      clear hK K
      refine wpG_take HS6 (by rfl) (by intro W hW; go_simp; try with_reducible rfl) ?_
      go_simp
      refine wpG_last fun K hK => ?_
      have f3 := HB6.out.frozen 3
      have y3 := HB6.out.cell 3
      go_wp2_with fail
      have hA2 : 0 < q.n → ∀ ad, q.A = some ad → ad.block < gb := fun hn ad e => Nat.lt_trans (HA.out.1 hn ad e) hgbr.out
      have h02 : w0.heap.size ≤ gb := Nat.le_trans HA.out.2.1 (Nat.le_of_lt hgbr.out)
      have HR7 := Lib.hid (HR6.out.put (fun e => hgbg.out e.symm) hA2 h02 3 (.slice A5 (n + 1) c5))
      have HK7 := Lib.hid (HK6.out.setCell (p := ⟨gb, 3, none⟩) (fun hlt => absurd hlt (by have := hgbr.out; have h2 := HGR.out; simp only; omega)) (.slice A5 (n + 1) c5))
      have HZ7 := Lib.hid (HZ6.out.far (p := ⟨gb, 3, none⟩) (Nat.ne_of_lt hgbr.out) (.slice A5 (n + 1) c5))
      have HB7 : Hid (Blk (w6.setCell ⟨gb, 3, none⟩ (.slice A5 (n + 1) c5)) gb 67 #[.int .u8 0, .slice none 0 0, .int .u32 x1, .slice A5 (n + 1) c5, .int .u32 0, .bool false, .int .u32 0, .int .u32 0, .slice none 0 0]) := Lib.hid (HB6.out.set_ 3 _)
      have HO7 := Lib.hid (own_kept HO6.out (kept_setC w6 gb 3 (.slice A5 (n + 1) c5)) (fun i hi e => own_blk_ne HO6.out HB6.out (by decide) (by rw [hi]; exact congrArg some e)))
      refine hK.out _ _ ?_
      clear hK K
      generalize w6.setCell ⟨gb, 3, none⟩ (.slice A5 (n + 1) c5) = w7 at *
      go_wp2
      try go_simp
      go_roundw
      case rel => exact ⟨s4, A5, n + 1, c5, L ++ [x], HR7.out, HZ7, HB7, HO7, HK7, Lib.hid (HP.out.push HE.out (by rw [HLf.out]; exact hl) HN4.out)⟩
      case measure =>
        rw [HM.out, rdLeft_eq HR7.out, if_pos HE.out]
        have hx := HP.out.eq
        rcases HN4.out.cases with ⟨_, h2, _, h4⟩ | ⟨_, _, h4⟩
        · rw [hx] at h2
          rw [h4]
          simp only [if_true]
          omega
        · rw [if_neg h4]
          omega
    · have hd : decide (0 < lf) = false := decide_eq_false hl
      obtain ⟨b0, b1, b2, b3, b4, b5, b6, b7, b8⟩ := body_facts HB2.out
      go_wp2_with (clear b0 b1 b2 b3 b4 b5 b6 b7 b8; refine wpList_store_row rfl 67 _ _ rfl gr #[.int .u8 0, .slice none 0 0, .int .u32 x1, .slice A n c, .int .u32 0, .bool false, .int .u32 0, .int .u32 0, .slice none 0 0] rfl rfl 67 _ HZ2.out info_body rfl (by simp [Value.oneCell']) ?_)
      have hnl : L.length = n := by have h1 := HO2.out.1; rw [u32s_len] at h1; omega
      have hnb : 4 * n ≤ xs.length + 4 := by
        have h1 := HP.out.is
        rw [hnl] at h1
        rcases h1 with ⟨_, h2, h3, _⟩ | ⟨_, _, h3⟩ <;> omega
      obtain ⟨A', c', hv, hc1, hc2, hrd⟩ := own_shape HO2.out
      injection hv with hv1 _ hv3
      subst hv1 hv3
      refine bodyPost_ret (results_cell_row rfl _ _ gr 67 #[.int .u8 0, .slice none 0 0, .int .u32 x1, .slice A n c, .int .u32 0, .bool false, .int .u32 0, .int .u32 0, .slice none 0 0] (0, 0) _ rfl (HZ2.out.setRow _) Tryd.underlying67 rfl info_body) rfl ⟨⟨0, none, 0, 0, [], x1, A, n, c, L, 0, false, 0, 0, none, 0, 0, []⟩, s2, rfl, HR2.out.putRow (fun e => hgrg.out e.symm) HA.out.1 HA.out.2.1 _, ?_, kept_putRow HK2.out (by rw [HGR.out]; exact Nat.le_refl _) _, HP.out.eq, ?_, ?_⟩
      · have ho := own_kept HO2.out ((Kept.of_grown (only_setRow w3 gr #[.int .u8 0, .slice none 0 0, .int .u32 x1, .slice A n c, .int .u32 0, .bool false, .int .u32 0, .int .u32 0, .slice none 0 0])).mono (T := fun i => i = gr) fun i _ e => by simpa using e.symm) (fun i hi e => own_blk_ne HO2.out HZ2.out (by decide) (by rw [hi]; exact congrArg some e))
        exact ⟨⟨by simp, Reads.none_, rfl, by simp, by simp only; omega, Reads.of_own ho, hnl, HP.out.rng, by simp, by simp, by simp, Reads.none_, (fun i x hx => by simp at hx), by simp only; omega, by simp only; omega⟩, own_nil _ _ _ _, ho, own_nil _ _ _ _⟩
      · rintro ⟨he, hl0⟩
        rcases HP.out.is with ⟨_, h2, h3, h4⟩ | ⟨h2, _⟩
        · have hlf : s2.left = (s2.xs.length : Int) - s2.pos := by unfold Rd.left; rw [if_pos he]
          rw [HP.out.eq, hl0, h2] at hlf
          rw [hnl] at hlf h4
          have hs := HS.out
          subst hs
          obtain ⟨rfl, -⟩ := HN1.out.fit rfl (by simp only; omega)
          have hq : n = xs.length / 4 - 1 := by omega
          refine ⟨?_, ?_⟩
          · unfold fitB
            simp
            omega
          · constructor <;> try (simp; done)
            rw [← hq]
            simpa using h4
        · exact absurd he h2
      · intro hf
        rcases HP.out.is with ⟨h1, _⟩ | ⟨_, h2, _⟩
        · have h5 := HLf.out
          have hlf : s2.left = (s2.xs.length : Int) - s2.pos := by unfold Rd.left; rw [if_pos h1]
          rcases HP.out.is with ⟨_, h2, h3, h4⟩ | ⟨h2, _⟩
          · rw [HP.out.eq] at hlf
            exact ⟨h1, by omega⟩
          · exact absurd h1 h2
        · exact absurd hf h2
end Go.Proofs.YtljedcfpbdompaaDoor
namespace Go.Proofs.YtljedcfpbdompaaDoor
set_option linter.unusedVariables false
open Go.RowKit Go.ChangeShapes Go.WideShapes

theorem el_link : El Tryd.prog 64 111 4 12 := El.mk' Tryd.underlying64 (z := .agg #[.int .u32 0, .int .u32 0, .int .u8 0, .int .u16 0]) (by kernel_rfl) rfl (by decide)
theorem own_shape_n {w : World} {base size n : Nat} {e : TypeId} {v : Value} {xs : List Value} (h : w.ownsRow base e size v n xs) : ∃ A c, v = .slice A n c ∧ n ≤ c ∧ c ≤ 9223372036854775807 ∧ Reads w w.heap.size size A n xs := by
  have hh := h
  rcases h.2 with ⟨rfl, rfl⟩ | ⟨g', cap, cur, rfl, _, hk, hc, hm, _⟩
  · exact ⟨none, 0, rfl, Nat.le_refl _, by omega, Reads.of_own hh⟩
  · exact ⟨some ⟨g', 0, none⟩, cap, rfl, hc, by unfold maxLen at hm; exact hm, Reads.of_own hh⟩
theorem lks_len (L : List Lk) : (L.flatMap Lk.cells).length = 4 * L.length := by
  induction L with
  | nil => rfl
  | cons x L ih => rw [List.flatMap_cons, List.length_append, ih, lk_len]; simp; omega
theorem lks_snoc (L : List Lk) (x : Lk) : (L ++ [x]).flatMap Lk.cells = L.flatMap Lk.cells ++ x.cells := by simp [List.flatMap_append]
/-- How far the links are read; k are left. -/
structure Pr (xs : List Int) (s : Rd) (L : List Lk) (k : Int) : Prop where
  eq : s.xs = xs
  rng : ∀ x ∈ L, x.ok
  is : (s.e = 0 ∧ s.pos = 4 + 12 * L.length ∧ s.pos ≤ xs.length ∧ L = (List.range L.length).map (fun i => linkAt xs (4 + 12 * i)) ∧ (L.length : Int) + k = be ((xs.drop 2).take 2)) ∨ (s.e ≠ 0 ∧ ¬ fitB 1 xs ∧ 12 * L.length ≤ xs.length + 12)
theorem Pr.start {xs : List Int} {s s1 s2 s3 : Rd} {x y z : Int} (hs : s = ⟨xs, 0, 0⟩) (h1 : NumR s 1 x s1) (h2 : NumR s1 1 y s2) (h3 : NumR s2 2 z s3) : Pr xs s3 [] z := by
  subst hs
  refine ⟨h3.xs.trans (h2.xs.trans h1.xs), by simp, ?_⟩
  by_cases he : s3.e = 0
  · obtain ⟨e2, l3, rfl, rfl⟩ := h3.yes he
    obtain ⟨e1, l2, rfl, rfl⟩ := h2.yes e2
    obtain ⟨e0, l1, rfl, rfl⟩ := h1.yes e1
    simp only at l3
    exact .inl ⟨rfl, rfl, by simp only; omega, by simp, by simp⟩
  · refine .inr ⟨he, fun hf => he ?_, by simp⟩
    have hl : 4 ≤ xs.length := by unfold fitB at hf; simp at hf; exact hf.1
    obtain ⟨rfl, rfl⟩ := h1.fit rfl (by simp only; omega)
    obtain ⟨rfl, rfl⟩ := h2.fit rfl (by simp only; omega)
    obtain ⟨rfl, rfl⟩ := h3.fit rfl (by simp only; omega)
    rfl
theorem Pr.push {xs : List Int} {s s1 s2 s3 s4 s5 : Rd} {L : List Lk} {k a b t z c : Int} (p : Pr xs s L k) (he : s.e = 0) (hk : 0 < k) (h1 : NumR s 4 a s1) (h2 : NumR s1 4 b s2) (h3 : NumR s2 1 t s3) (h4 : NumR s3 1 z s4) (h5 : NumR s4 2 c s5) :
    Pr xs s5 (L ++ [⟨a, b, t, c⟩]) (k - 1) := by
  have q1 := h1.hi; have q2 := h2.hi; have q3 := h3.hi; have q5 := h5.hi
  have r1 := h1.lo; have r2 := h2.lo; have r3 := h3.lo; have r5 := h5.lo
  refine ⟨h5.xs.trans (h4.xs.trans (h3.xs.trans (h2.xs.trans (h1.xs.trans p.eq)))), fun y hy => ?_, ?_⟩
  · rcases List.mem_append.mp hy with hy | hy
    · exact p.rng y hy
    · simp only [List.mem_singleton] at hy
      subst hy
      exact ⟨by simp only; omega, by simp only; omega, by simp only; omega, by simp only; omega⟩
  · have hx := p.eq
    rcases p.is with ⟨_, p2, p3, p4, p5⟩ | ⟨e1, _⟩
    · obtain ⟨sx, sp, se⟩ := s
      simp only at hx p2 p3 he
      subst hx he
      by_cases hl : sp + 12 ≤ sx.length
      · obtain ⟨rfl, rfl⟩ := h1.fit rfl (by simp only; omega)
        obtain ⟨rfl, rfl⟩ := h2.fit rfl (by simp only; omega)
        obtain ⟨rfl, rfl⟩ := h3.fit rfl (by simp only; omega)
        obtain ⟨rfl, rfl⟩ := h4.fit rfl (by simp only; omega)
        obtain ⟨rfl, rfl⟩ := h5.fit rfl (by simp only; omega)
        refine .inl ⟨rfl, by simp only [List.length_append, List.length_singleton]; omega, by simp only; omega, ?_, by simp only [List.length_append, List.length_singleton]; omega⟩
        rw [List.length_append, List.length_singleton, List.range_succ, List.map_append, ← p4, p2]
        rfl
      · have hn : ¬ fitB 1 sx := by
          intro hf
          unfold fitB at hf
          simp only [if_true] at hf
          omega
        refine .inr ⟨fun he5 => hl ?_, hn, by simp only [List.length_append, List.length_singleton]; omega⟩
        obtain ⟨e4, l5, rfl, rfl⟩ := h5.yes he5
        obtain ⟨e3, l4, rfl, rfl⟩ := h4.yes e4
        obtain ⟨e2, l3, rfl, rfl⟩ := h3.yes e3
        obtain ⟨e1, l2, rfl, rfl⟩ := h2.yes e2
        obtain ⟨e0, l1, rfl, rfl⟩ := h1.yes e1
        simp only at l5
        omega
    · exact absurd he e1
/-- The loop over the links. -/
structure RlI (w0 w : World) (g gr gb : Nat) (q : Rq) (xs : List Int) (x1 : Int) (i : Value) (W : World) : Prop where
  ex : ∃ s A n c L k, i = .int .u32 k ∧ 0 ≤ k ∧ k ≤ 65535 ∧ RR w0 W g q s ∧ Hid (Blk W gr 67 #[.int .u8 0, .slice none 0 0, .int .u32 0, .slice none 0 0, .int .u32 0, .bool false, .int .u32 0, .int .u32 0, .slice none 0 0]) ∧
    Hid (Blk W gb 67 #[.int .u8 x1, .slice A n c, .int .u32 0, .slice none 0 0, .int .u32 0, .bool false, .int .u32 0, .int .u32 0, .slice none 0 0]) ∧
    Hid (W.ownsRow w.heap.size 111 4 (.slice A n c) n (L.flatMap Lk.cells)) ∧ Hid (Kept (fun i => i = g) w W) ∧ Hid (Pr xs s L k)
set_option maxRecDepth 100000 in
set_option maxHeartbeats 8000000 in
theorem readRouter_any (w0 w : World) (g : Nat) (q : Rq) (xs : List Int) (h : RR w0 w g q ⟨xs, 0, 0⟩) (hn : xs.length ≤ 1073741824) :
    Calls Tryd.prog 66 #[.pointer (some ⟨g, 0, none⟩)] w fun e w' => RdP w0 w w' g q 1 xs e := by
  obtain ⟨s, hs⟩ : ∃ s : Rd, s = ⟨xs, 0, 0⟩ := ⟨_, rfl⟩
  rw [← hs] at h
  have HS := Lib.hid hs
  clear hs
  have hgl : g < w.heap.size := h.rs.blk.lt
  have HA := Lib.hid (And.intro h.rs.addr (And.intro h.b.size (h.rs.len)))
  have hb0 : Below w.heap.size w (w.alloc (.cells #[.int .u8 0, .slice none 0 0, .int .u32 0, .slice none 0 0, .int .u32 0, .bool false, .int .u32 0, .int .u32 0, .slice none 0 0] 67)) := (Below.refl _ _).alloc (Nat.le_refl _) _
  have HR := Lib.hid (h.later hb0)
  have HK := Lib.hid (Kept.of_new hb0 (fun i => i = g))
  have HZ := Lib.hid (Blk.new w 67 #[.int .u8 0, .slice none 0 0, .int .u32 0, .slice none 0 0, .int .u32 0, .bool false, .int .u32 0, .int .u32 0, .slice none 0 0])
  have HG := Lib.hid hgl
  clear h hgl hb0
  go_enter Tryd.func66, Tryd.ntmps66
  go_wp2_with fail
  generalize hgr : w.heap.size = gr at *
  generalize w.alloc (.cells #[.int .u8 0, .slice none 0 0, .int .u32 0, .slice none 0 0, .int .u32 0, .bool false, .int .u32 0, .int .u32 0, .slice none 0 0] 67) = w1 at *
  have hgrg : Hid (gr ≠ g) := Lib.hid (by have := HG.out; omega)
  have HGR := Lib.hid hgr
  clear hgr
  refine (rr_numx w0 w1 g q s HR.out 1 (by decide) (by decide)).mono ?_
  rintro e v1 ⟨x1, s1, rfl, hN, hr, hk⟩
  have HN1 := Lib.hid hN
  have hx1 := And.intro hN.lo hN.hi
  replace HR := Lib.hid hr
  replace HK := Lib.hid (HK.out.trans hk (fun _ _ e => e))
  replace HZ := Lib.hid (HZ.out.kept hk hgrg.out)
  clear hr hk hN
  have e1 : IntKind.u8.wrap x1 = x1 := by simp [IntKind.wrap, IntKind.bits, IntKind.signed]; omega
  go_wp2_with (refine wpList_store_row rfl 67 _ _ rfl v1.heap.size #[.int .u8 x1, .slice none 0 0, .int .u32 0, .slice none 0 0, .int .u32 0, .bool false, .int .u32 0, .int .u32 0, .slice none 0 0] rfl rfl 67 _ (heap_alloc_new v1 _) info_body rfl (by simp [Value.oneCell']) ?_; rw [World.setRow_alloc_new])
  clear e1
  have hb1 : Below v1.heap.size v1 (v1.alloc (.cells #[.int .u8 x1, .slice none 0 0, .int .u32 0, .slice none 0 0, .int .u32 0, .bool false, .int .u32 0, .int .u32 0, .slice none 0 0] 67)) := (Below.refl _ _).alloc (Nat.le_refl _) _
  replace HR := Lib.hid (HR.out.later hb1)
  replace HK := Lib.hid (HK.out.trans (Kept.of_new hb1 (fun i => i = g)) (fun _ _ e => e))
  have hgb := HZ.out.lt
  have hvg : g < v1.heap.size := by have h1 := HG.out; omega
  replace HZ := Lib.hid (HZ.out.later hb1)
  have HB := Lib.hid (Blk.new v1 67 #[.int .u8 x1, .slice none 0 0, .int .u32 0, .slice none 0 0, .int .u32 0, .bool false, .int .u32 0, .int .u32 0, .slice none 0 0])
  have hgbg : Hid (v1.heap.size ≠ g) := Lib.hid (by omega)
  have hgbr : Hid (gr < v1.heap.size) := Lib.hid hgb
  clear hb1 hgb hvg
  generalize v1.heap.size = gb at *
  generalize v1.alloc (.cells #[.int .u8 x1, .slice none 0 0, .int .u32 0, .slice none 0 0, .int .u32 0, .bool false, .int .u32 0, .int .u32 0, .slice none 0 0] 67) = w2 at *
  refine (rr_numx w0 w2 g q s1 HR.out 1 (by decide) (by decide)).mono ?_
  rintro e v2 ⟨x2, s2, rfl, hN, hr, hk⟩
  have HN2 := Lib.hid hN
  have hx2 := And.intro hN.lo hN.hi
  replace HR := Lib.hid hr
  replace HK := Lib.hid (HK.out.trans hk (fun _ _ e => e))
  replace HZ := Lib.hid (HZ.out.kept hk hgrg.out)
  replace HB := Lib.hid (HB.out.kept hk hgbg.out)
  clear hr hk hN
  go_wp2_with fail
  refine (rr_numx w0 v2 g q s2 HR.out 2 (by decide) (by decide)).mono ?_
  rintro e v3 ⟨x3, s3, rfl, hN, hr, hk⟩
  have HN3 := Lib.hid hN
  have hx3 := And.intro hN.lo hN.hi
  replace HR := Lib.hid hr
  replace HK := Lib.hid (HK.out.trans hk (fun _ _ e => e))
  replace HZ := Lib.hid (HZ.out.kept hk hgrg.out)
  replace HB := Lib.hid (HB.out.kept hk hgbg.out)
  clear hr hk hN
  go_wp2_with fail
  try go_simp
  go_loopw [4] (RlI w0 w g gr gb q xs x1) (fun t _ => (intOf t).toNat)
  case atStart => exact ⟨s3, none, 0, 0, [], x3, rfl, by omega, by omega, HR.out, HZ, HB, Lib.hid (by simp [World.ownsRow]), HK, Lib.hid (Pr.start HS.out HN1.out HN2.out HN3.out)⟩
  case round =>
    obtain ⟨s4, A, n, c, L, k, rfl, hk0, hk1, hr, HZ2, HB2, HO2, HK2, HP⟩ := hrel
    clear HR HZ HB HK
    have HR := Lib.hid hr
    have HZ := HZ2
    have HB := HB2
    have HO := HO2
    have HK := HK2
    clear hr HZ2 HB2 HO2 HK2
    by_cases hkp : 0 < k
    · have hd : decide (0 < k) = true := decide_eq_true hkp
      go_wp2_with fail
      refine (rr_err w0 wr g q s4 HR.out).mono ?_
      rintro e w4 ⟨rfl, rfl⟩
      by_cases hne : s4.e = 0
      · rw [hne]
        have HE := Lib.hid hne
        clear hne
        go_wp2_with fail
        refine (rr_numx w0 wr g q s4 HR.out 4 (by decide) (by decide)).mono ?_
        rintro e p1 ⟨a, r1, rfl, hN, hr, hk⟩
        have HM1 := Lib.hid hN
        have ha := And.intro hN.lo hN.hi
        replace HO := Lib.hid (own_kept HO.out hk (fun i hi e => by have h1 := (own_ge HO.out hi).1; have h2 := HG.out; have h3 := HGR.out; have h4 : i = g := e; omega))
        replace HR := Lib.hid hr
        replace HK := Lib.hid (HK.out.trans hk (fun _ _ e => e))
        replace HZ := Lib.hid (HZ.out.kept hk hgrg.out)
        replace HB := Lib.hid (HB.out.kept hk hgbg.out)
        clear hr hk hN
        go_wp2_with fail
        refine (rr_numx w0 p1 g q r1 HR.out 4 (by decide) (by decide)).mono ?_
        rintro e p2 ⟨b, r2, rfl, hN, hr, hk⟩
        have HM2 := Lib.hid hN
        have hb := And.intro hN.lo hN.hi
        replace HO := Lib.hid (own_kept HO.out hk (fun i hi e => by have h1 := (own_ge HO.out hi).1; have h2 := HG.out; have h3 := HGR.out; have h4 : i = g := e; omega))
        replace HR := Lib.hid hr
        replace HK := Lib.hid (HK.out.trans hk (fun _ _ e => e))
        replace HZ := Lib.hid (HZ.out.kept hk hgrg.out)
        replace HB := Lib.hid (HB.out.kept hk hgbg.out)
        clear hr hk hN
        go_wp2_with fail
        refine (rr_numx w0 p2 g q r2 HR.out 1 (by decide) (by decide)).mono ?_
        rintro e p3 ⟨t, r3, rfl, hN, hr, hk⟩
        have HM3 := Lib.hid hN
        have ht := And.intro hN.lo hN.hi
        replace HO := Lib.hid (own_kept HO.out hk (fun i hi e => by have h1 := (own_ge HO.out hi).1; have h2 := HG.out; have h3 := HGR.out; have h4 : i = g := e; omega))
        replace HR := Lib.hid hr
        replace HK := Lib.hid (HK.out.trans hk (fun _ _ e => e))
        replace HZ := Lib.hid (HZ.out.kept hk hgrg.out)
        replace HB := Lib.hid (HB.out.kept hk hgbg.out)
        clear hr hk hN
        have e3 : IntKind.u8.wrap t = t := by simp [IntKind.wrap, IntKind.bits, IntKind.signed]; omega
        go_wp2_with (refine wpList_store_row rfl 111 _ _ rfl p3.heap.size #[.int .u32 a, .int .u32 b, .int .u8 t, .int .u16 0] rfl rfl 111 _ (heap_alloc_new p3 _) info_link rfl (by simp [Value.oneCell']) ?_; rw [World.setRow_alloc_new])
        clear e3
        have hb4 : Below p3.heap.size p3 (p3.alloc (.cells #[.int .u32 a, .int .u32 b, .int .u8 t, .int .u16 0] 111)) := (Below.refl _ _).alloc (Nat.le_refl _) _
        have HOX : Hid (∀ i, (Value.slice A n c).ownBlock = some i → i ≠ p3.heap.size) := Lib.hid fun i hi e => by have := (own_ge HO.out hi).2; omega
        have hgx : gb < p3.heap.size := HB.out.lt
        have hgw : w.heap.size ≤ p3.heap.size := HK.out.size
        have HX := Lib.hid (Blk.new p3 111 #[.int .u32 a, .int .u32 b, .int .u8 t, .int .u16 0])
        replace HR := Lib.hid (HR.out.later hb4)
        replace HK := Lib.hid (HK.out.trans (Kept.of_new hb4 (fun i => i = g)) (fun _ _ e => e))
        replace HZ := Lib.hid (HZ.out.later hb4)
        replace HB := Lib.hid (HB.out.later hb4)
        replace HO := Lib.hid (own_kept HO.out (Kept.of_new hb4 (fun _ => False)) (fun _ _ h => h))
        have hgxg : Hid (p3.heap.size ≠ g) := Lib.hid (by have := HG.out; have h2 := HGR.out; omega)
        have HGX : Hid (gb < p3.heap.size ∧ w.heap.size ≤ p3.heap.size) := Lib.hid ⟨hgx, hgw⟩
        clear hb4 hgx hgw
        generalize p3.heap.size = gx at *
        generalize p3.alloc (.cells #[.int .u32 a, .int .u32 b, .int .u8 t, .int .u16 0] 111) = q3 at *
        refine (rr_numx w0 q3 g q r3 HR.out 1 (by decide) (by decide)).mono ?_
        rintro e p4 ⟨z, r4, rfl, hN, hr, hk⟩
        have HM4 := Lib.hid hN
        have hz := And.intro hN.lo hN.hi
        replace HO := Lib.hid (own_kept HO.out hk (fun i hi e => by have h1 := (own_ge HO.out hi).1; have h2 := HG.out; have h3 := HGR.out; have h4 : i = g := e; omega))
        replace HR := Lib.hid hr
        replace HK := Lib.hid (HK.out.trans hk (fun _ _ e => e))
        replace HZ := Lib.hid (HZ.out.kept hk hgrg.out)
        replace HB := Lib.hid (HB.out.kept hk hgbg.out)
        replace HX := Lib.hid (HX.out.kept hk hgxg.out)
        clear hr hk hN
        go_wp2_with fail
        refine (rr_numx w0 p4 g q r4 HR.out 2 (by decide) (by decide)).mono ?_
        rintro e p5 ⟨c6, r5, rfl, hN, hr, hk⟩
        have HM5 := Lib.hid hN
        have hc6 := And.intro hN.lo hN.hi
        replace HO := Lib.hid (own_kept HO.out hk (fun i hi e => by have h1 := (own_ge HO.out hi).1; have h2 := HG.out; have h3 := HGR.out; have h4 : i = g := e; omega))
        replace HR := Lib.hid hr
        replace HK := Lib.hid (HK.out.trans hk (fun _ _ e => e))
        replace HZ := Lib.hid (HZ.out.kept hk hgrg.out)
        replace HB := Lib.hid (HB.out.kept hk hgbg.out)
        replace HX := Lib.hid (HX.out.kept hk hgxg.out)
        clear hr hk hN
        have e6 : IntKind.u16.wrap c6 = c6 := by simp [IntKind.wrap, IntKind.bits, IntKind.signed]; omega
        have f6 := HX.out.frozen 3
        have y6 := HX.out.cell 3
        have hA2 : 0 < q.n → ∀ ad, q.A = some ad → ad.block < gx := fun hn ad e => Nat.lt_trans (Nat.lt_trans (HA.out.1 hn ad e) hgbr.out) HGX.out.1
        have h02 : w0.heap.size ≤ gx := Nat.le_trans (Nat.le_trans HA.out.2.1 (Nat.le_of_lt hgbr.out)) (Nat.le_of_lt HGX.out.1)
        replace HR := Lib.hid (HR.out.put (fun e => hgxg.out e.symm) hA2 h02 3 (.int .u16 c6))
        replace HK := Lib.hid (HK.out.setCell (p := ⟨gx, 3, none⟩) (fun hlt => absurd hlt (by have := HGX.out.2; simp only; omega)) (.int .u16 c6))
        replace HZ := Lib.hid (HZ.out.far (p := ⟨gx, 3, none⟩) (Nat.ne_of_lt (Nat.lt_trans hgbr.out HGX.out.1)) (.int .u16 c6))
        replace HB := Lib.hid (HB.out.far (p := ⟨gx, 3, none⟩) (Nat.ne_of_lt HGX.out.1) (.int .u16 c6))
        replace HO := Lib.hid (own_kept HO.out (kept_setC p5 gx 3 (.int .u16 c6)) (fun i hi e => HOX.out i hi e))
        replace HX : Hid (Blk (p5.setCell ⟨gx, 3, none⟩ (.int .u16 c6)) gx 111 #[.int .u32 a, .int .u32 b, .int .u8 t, .int .u16 c6]) := Lib.hid (HX.out.set_ 3 _)
        clear hA2 h02
        have y1 := HB.out.cell 1
        have j0 := HX.out.cell 0
        have j1 := HX.out.cell 1
        have j2 := HX.out.cell 2
        have j3 := HX.out.cell 3
        have hb7 : Below (p5.setCell ⟨gx, 3, none⟩ (.int .u16 c6)).heap.size (p5.setCell ⟨gx, 3, none⟩ (.int .u16 c6)) ((p5.setCell ⟨gx, 3, none⟩ (.int .u16 c6)).alloc (.cells #[.int .u32 a, .int .u32 b, .int .u8 t, .int .u16 c6] 111)) := (Below.refl _ _).alloc (Nat.le_refl _) _
        have hsz : (p5.setCell ⟨gx, 3, none⟩ (.int .u16 c6)).heap.size = p5.heap.size := by simp
        have HBl : Blk ((p5.setCell ⟨gx, 3, none⟩ (.int .u16 c6)).alloc (.cells #[.int .u32 a, .int .u32 b, .int .u8 t, .int .u16 c6] 111)) p5.heap.size 111 #[.int .u32 a, .int .u32 b, .int .u8 t, .int .u16 c6] := by rw [← hsz]; exact Blk.new _ _ _
        have HRd : Hid (Reads ((p5.setCell ⟨gx, 3, none⟩ (.int .u16 c6)).alloc (.cells #[.int .u32 a, .int .u32 b, .int .u8 t, .int .u16 c6] 111)) ((p5.setCell ⟨gx, 3, none⟩ (.int .u16 c6)).alloc (.cells #[.int .u32 a, .int .u32 b, .int .u8 t, .int .u16 c6] 111)).heap.size 4 (some ⟨p5.heap.size, 0, none⟩) 1 (Lk.cells ⟨a, b, t, c6⟩)) := Lib.hid ⟨rfl, fun _ => ⟨_, rfl, HBl.lt, fun j u hu => by rw [add_none, Nat.zero_add, HBl.cell]; simpa [Lk.cells] using hu⟩⟩
        have HR7 := Lib.hid (HR.out.later hb7)
        have HK7 := Lib.hid (HK.out.trans (Kept.of_new hb7 (fun i => i = g)) (fun _ _ e => e))
        have HZ7 := Lib.hid (HZ.out.later hb7)
        have HB7 := Lib.hid (HB.out.later hb7)
        have HO7 := Lib.hid (own_kept HO.out (Kept.of_new hb7 (fun _ => False)) (fun _ _ h => h))
        clear hb7 HBl hsz
        have hnl : L.length = n := by have h1 := HO.out.1; rw [lks_len] at h1; omega
        have hnb : 12 * n ≤ xs.length + 12 := by have h1 := HP.out.is; have h2 := HE.out; rw [hnl] at h1; omega
        have ek : IntKind.u32.wrap (k - 1) = k - 1 := by simp [IntKind.wrap, IntKind.bits, IntKind.signed]; omega
        have hbase : w.heap.size ≤ ((p5.setCell ⟨gx, 3, none⟩ (.int .u16 c6)).alloc (.cells #[.int .u32 a, .int .u32 b, .int .u8 t, .int .u16 c6] 111)).heap.size := HK7.out.size
        clear HR HK HZ HB HO HX
        go_wp2_with (at_builtin; clear f6 y6 y1 j0 j1 j2 j3; generalize p5.heap.size = gy at *; generalize (p5.setCell ⟨gx, 3, none⟩ (.int .u16 c6)).alloc (.cells #[.int .u32 a, .int .u32 b, .int .u8 t, .int .u16 c6] 111) = p7 at *; go_must (refine wpList_app el_link rfl (.tmp 38) (.tmp 40) rfl HO7.out rfl HRd.out rfl (lk_one _) (by simp only [maxLen]; omega) (by omega) hbase ?_); intro v5 p8 ho8 hb8 hg8 hn8; obtain ⟨A5, c5, hv5, -, -, -⟩ := own_shape_n ho8; subst hv5; rw [← lks_snoc] at ho8; have H8 := Lib.hid (And.intro ho8 hg8); clear ho8 hb8 hg8 hn8; have f8 : p8.frozen? ⟨gb, 1, none⟩ = false := (HB7.out.kept (Kept.of_grown H8.out.2) (fun e => own_blk_ne HO7.out HB7.out (by decide) e)).frozen 1; have y8 := (HB7.out.kept (Kept.of_grown H8.out.2) (fun e => own_blk_ne HO7.out HB7.out (by decide) e)).cell 1)
        have k8 := Kept.of_grown H8.out.2
        have hog : ∀ i, (Value.slice A n c).ownBlock = some i → w.heap.size ≤ i := fun i hi => (own_ge HO7.out hi).1
        have HR8 := Lib.hid (HR7.out.kept k8 (fun e => by have h1 := hog g e; have h2 := HG.out; have h3 := HGR.out; omega) (fun hn ad e e' => by have h1 := hog _ e'; have h2 := HA.out.1 hn ad e; have h3 := HGR.out; omega) (fun i e => by have h1 := hog i e; have h2 := HA.out.2.1; have h3 := HGR.out; omega))
        have HK8 := Lib.hid (HK7.out.trans (k8.mono (T := fun i => w.heap.size ≤ i) fun i _ e => hog i e) (fun i hi e => absurd hi (by omega)))
        have HZ8 := Lib.hid (HZ7.out.kept k8 (fun e => own_blk_ne HO7.out HZ7.out (by decide) e))
        have HB8 := Lib.hid (HB7.out.kept k8 (fun e => own_blk_ne HO7.out HB7.out (by decide) e))
        have hA2 : 0 < q.n → ∀ ad, q.A = some ad → ad.block < gb := fun hn ad e => Nat.lt_trans (HA.out.1 hn ad e) hgbr.out
        have h02 : w0.heap.size ≤ gb := Nat.le_trans HA.out.2.1 (Nat.le_of_lt hgbr.out)
        have HR9 := Lib.hid (HR8.out.put (fun e => hgbg.out e.symm) hA2 h02 1 (.slice A5 (n + 1) c5))
        have HK9 := Lib.hid (HK8.out.setCell (p := ⟨gb, 1, none⟩) (fun hlt => absurd hlt (by have := hgbr.out; have h2 := HGR.out; simp only; omega)) (.slice A5 (n + 1) c5))
        have HZ9 := Lib.hid (HZ8.out.far (p := ⟨gb, 1, none⟩) (Nat.ne_of_lt hgbr.out) (.slice A5 (n + 1) c5))
        have HB9 : Hid (Blk (p8.setCell ⟨gb, 1, none⟩ (.slice A5 (n + 1) c5)) gb 67 #[.int .u8 x1, .slice A5 (n + 1) c5, .int .u32 0, .slice none 0 0, .int .u32 0, .bool false, .int .u32 0, .int .u32 0, .slice none 0 0]) := Lib.hid (HB8.out.set_ 1 _)
        have HO9 := Lib.hid (own_kept H8.out.1 (kept_setC p8 gb 1 (.slice A5 (n + 1) c5)) (fun i hi e => own_blk_ne H8.out.1 HB8.out (by decide) (by rw [hi]; exact congrArg some e)))
        clear f8 y8 k8 hog hA2 h02
        generalize p8.setCell ⟨gb, 1, none⟩ (.slice A5 (n + 1) c5) = p9 at *
        go_roundw
        case rel => exact ⟨r5, A5, n + 1, c5, L ++ [⟨a, b, t, c6⟩], k - 1, rfl, by omega, by omega, HR9.out, HZ9, HB9, HO9, HK9, Lib.hid (HP.out.push HE.out hkp HM1.out HM2.out HM3.out HM4.out HM5.out)⟩
        case measure => simp [intOf]; omega
      · have hb0 : (s4.e == 0) = false := by simp [hne]
        obtain ⟨b0, b1, b2, b3, b4, b5, b6, b7, b8⟩ := body_facts HB.out
        go_wp2_with (clear b0 b1 b2 b3 b4 b5 b6 b7 b8; refine wpList_store_row rfl 67 _ _ rfl gr #[.int .u8 x1, .slice A n c, .int .u32 0, .slice none 0 0, .int .u32 0, .bool false, .int .u32 0, .int .u32 0, .slice none 0 0] rfl rfl 67 _ HZ.out info_body rfl (by simp [Value.oneCell']) ?_)
        have hnl : L.length = n := by have h1 := HO.out.1; rw [lks_len] at h1; omega
        have hnb : 12 * n ≤ xs.length + 12 := by
          have h1 := HP.out.is
          rw [hnl] at h1
          rcases h1 with ⟨_, h2, h3, _⟩ | ⟨_, _, h3⟩ <;> omega
        obtain ⟨A', c', hv, hc1, hc2, hrd⟩ := own_shape_n HO.out
        injection hv with hv1 _ hv3
        subst hv1 hv3
        refine bodyPost_ret (results_cell_row rfl _ _ gr 67 #[.int .u8 x1, .slice A n c, .int .u32 0, .slice none 0 0, .int .u32 0, .bool false, .int .u32 0, .int .u32 0, .slice none 0 0] (0, 0) _ rfl (HZ.out.setRow _) Tryd.underlying67 rfl info_body) rfl ⟨⟨x1, A, n, c, L, 0, none, 0, 0, [], 0, false, 0, 0, none, 0, 0, []⟩, s4, rfl, HR.out.putRow (fun e => hgrg.out e.symm) HA.out.1 HA.out.2.1 _, ?_, kept_putRow HK.out (by rw [HGR.out]; exact Nat.le_refl _) _, HP.out.eq, ?_, ?_⟩
        · have ho := own_kept HO.out ((Kept.of_grown (only_setRow wr gr #[.int .u8 x1, .slice A n c, .int .u32 0, .slice none 0 0, .int .u32 0, .bool false, .int .u32 0, .int .u32 0, .slice none 0 0])).mono (T := fun i => i = gr) fun i _ e => by simpa using e.symm) (fun i hi e => own_blk_ne HO.out HZ.out (by decide) (by rw [hi]; exact congrArg some e))
          exact ⟨⟨by simp only; omega, Reads.of_own ho, hnl, HP.out.rng, by simp, Reads.none_, rfl, by simp, by simp, by simp, by simp, Reads.none_, (fun i x hx => by simp at hx), by simp only; omega, by simp only; omega⟩, ho, own_nil _ _ _ _, own_nil _ _ _ _⟩
        · rintro ⟨he, hl0⟩
          exact absurd he hne
        · intro hf
          rcases HP.out.is with ⟨h1, _⟩ | ⟨_, h2, _⟩
          · exact absurd h1 hne
          · exact absurd hf h2
    · have hd : decide (0 < k) = false := decide_eq_false hkp
      have hk00 : k = 0 := by omega
      obtain ⟨b0, b1, b2, b3, b4, b5, b6, b7, b8⟩ := body_facts HB.out
      go_wp2_with (clear b0 b1 b2 b3 b4 b5 b6 b7 b8; refine wpList_store_row rfl 67 _ _ rfl gr #[.int .u8 x1, .slice A n c, .int .u32 0, .slice none 0 0, .int .u32 0, .bool false, .int .u32 0, .int .u32 0, .slice none 0 0] rfl rfl 67 _ HZ.out info_body rfl (by simp [Value.oneCell']) ?_)
      have hnl : L.length = n := by have h1 := HO.out.1; rw [lks_len] at h1; omega
      have hnb : 12 * n ≤ xs.length + 12 := by
        have h1 := HP.out.is
        rw [hnl] at h1
        rcases h1 with ⟨_, h2, h3, _⟩ | ⟨_, _, h3⟩ <;> omega
      obtain ⟨A', c', hv, hc1, hc2, hrd⟩ := own_shape_n HO.out
      injection hv with hv1 _ hv3
      subst hv1 hv3
      refine bodyPost_ret (results_cell_row rfl _ _ gr 67 #[.int .u8 x1, .slice A n c, .int .u32 0, .slice none 0 0, .int .u32 0, .bool false, .int .u32 0, .int .u32 0, .slice none 0 0] (0, 0) _ rfl (HZ.out.setRow _) Tryd.underlying67 rfl info_body) rfl ⟨⟨x1, A, n, c, L, 0, none, 0, 0, [], 0, false, 0, 0, none, 0, 0, []⟩, s4, rfl, HR.out.putRow (fun e => hgrg.out e.symm) HA.out.1 HA.out.2.1 _, ?_, kept_putRow HK.out (by rw [HGR.out]; exact Nat.le_refl _) _, HP.out.eq, ?_, ?_⟩
      · have ho := own_kept HO.out ((Kept.of_grown (only_setRow wr gr #[.int .u8 x1, .slice A n c, .int .u32 0, .slice none 0 0, .int .u32 0, .bool false, .int .u32 0, .int .u32 0, .slice none 0 0])).mono (T := fun i => i = gr) fun i _ e => by simpa using e.symm) (fun i hi e => own_blk_ne HO.out HZ.out (by decide) (by rw [hi]; exact congrArg some e))
        exact ⟨⟨by simp only; omega, Reads.of_own ho, hnl, HP.out.rng, by simp, Reads.none_, rfl, by simp, by simp, by simp, by simp, Reads.none_, (fun i x hx => by simp at hx), by simp only; omega, by simp only; omega⟩, ho, own_nil _ _ _ _, own_nil _ _ _ _⟩
      · rintro ⟨he, hl0⟩
        rcases HP.out.is with ⟨_, h2, h3, h4, h5⟩ | ⟨h2, _⟩
        · subst hk00
          have hlf : s4.left = (s4.xs.length : Int) - s4.pos := by unfold Rd.left; rw [if_pos he]
          rw [HP.out.eq, hl0, h2] at hlf
          rw [hnl] at hlf h4 h5
          have hs := HS.out
          subst hs
          obtain ⟨rfl, -⟩ := HN1.out.fit rfl (by simp only; omega)
          refine ⟨?_, ?_⟩
          · unfold fitB
            simp only [if_true]
            omega
          · constructor <;> try (simp; done)
            have hq : (be ((xs.drop 2).take 2)).toNat = n := by omega
            simp only [if_true]
            rw [hq]
            exact h4
        · exact absurd he h2
      · intro hf
        rcases HP.out.is with ⟨h1, h2, h3, h4, h5⟩ | ⟨_, h2, _⟩
        · subst hk00
          have hlf : s4.left = (s4.xs.length : Int) - s4.pos := by unfold Rd.left; rw [if_pos h1]
          rw [HP.out.eq] at hlf
          unfold fitB at hf
          simp only [if_true] at hf
          exact ⟨h1, by omega⟩
        · exact absurd hf h2
end Go.Proofs.YtljedcfpbdompaaDoor
