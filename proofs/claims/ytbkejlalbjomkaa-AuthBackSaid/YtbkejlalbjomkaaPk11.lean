/-
  Packets' parts, read: request. Printed by gen_pk11.py.
-/
import Derived.Test.YtbkejlalbjomkaaPk10
import Derived.Test.YtbkejlalbjomkaaRgn3
namespace Go.Proofs.Ytbkejlalbjomkaa
set_option linter.unusedVariables false
open Go.RowKit

/-- As wpS, where a call may throw. -/
def wpP (P : Program) (ops : Array Oper) (Q : Exit → Act → World → Prop) (S : World → Prop) : List (Oper × Bool) → Act → World → Prop
  | [], a, w => Q .normal a w
  | (o, true) :: r, a, w => ∃ v, YieldsIf P ops S o v a ∧ S w ∧ wpP P ops Q S r (a.put o.dst v) w
  | (o, false) :: r, a, w => ∀ Q' : Exit → Act → World → Prop, (∀ a w, S w → wpP P ops Q S r a w → Q' .normal a w) → (∀ c a w, Q (.panic c) a w → Q' (.panic c) a w) → wpList P ops Q' [o] a w
theorem wpAny_p {P : Program} {ops : Array Oper} {Q : Exit → Act → World → Prop} {S : World → Prop} (hs : Region.noSelect ops = true)
    (hQ : ∀ c d v a w, Q (.panic c) (Act.put a d v) w → Q (.panic c) a w) : ∀ (π : List (Nat × Bool)) (listed : Array Bool) (a : Act) (w : World),
    okOrder ops listed π = true → wpP P ops Q S (π.map fun x => (nthOp ops.toList x.1, x.2)) a w → wpAnyH P .any ops Q S π.length listed a w := by
  intro π
  induction π with
  | nil =>
    intro listed a w ho h
    simp only [okOrder, List.isEmpty_iff] at ho
    exact wpAnyH_done ho h _
  | cons x r ih =>
    obtain ⟨i, b⟩ := x
    intro listed a w ho h
    cases b with
    | true =>
      simp only [okOrder, Bool.and_eq_true] at ho
      obtain ⟨⟨hf, hr⟩, ho⟩ := ho
      obtain ⟨v, hy, hS, hrest⟩ := h
      have hlt : i < ops.size := ready_lt (by simpa using hr)
      have hi : ops[i]? = some (nthOp ops.toList i) := by
        have := nthOp_get ops.toList i (by simpa using hlt)
        simpa using this
      exact wpAnyH_take hi hs hf hr (fun c a w h => hQ c _ _ a w h) hy hS (ih _ _ _ ho hrest)
    | false =>
      simp only [okOrder, Bool.and_eq_true, beq_iff_eq] at ho
      obtain ⟨hr, ho⟩ := ho
      have hlt : i < ops.size := ready_lt (by rw [hr]; exact List.mem_singleton.2 rfl)
      have hi : ops[i]? = some (nthOp ops.toList i) := by
        have := nthOp_get ops.toList i (by simpa using hlt)
        simpa using this
      refine wpAnyH_all hr (by simp) (fun j hj => ?_)
      rw [List.mem_singleton] at hj
      subst hj
      have h' := h (Exit.then (fun a w => S w ∧ wpAnyH P .any ops Q S r.length (listed.setIfInBounds j true) a w) Q) (fun a w hS hh => ⟨hS, ih _ _ _ ho hh⟩) (fun _ _ _ h => h)
      unfold wpOp
      rw [hi]
      simp only [wpList] at h'
      show if _ then _ else _
      split
      · rename_i hw
        rw [if_pos hw] at h'
        rcases h' with h' | ⟨h1, h2⟩
        · exact .inl (wp_exit (fun _ _ _ h => h) (fun _ _ h => h) h')
        · exact .inr ⟨h1, h2⟩
      · rename_i hw
        rw [if_neg hw] at h'
        exact h'
theorem wp_region_p {P : Program} {id : Nat} {ops : Array Oper} {Q : Exit → Act → World → Prop} {a : Act} {w : World} (S : World → Prop) (π : List (Nat × Bool))
    (hm : (P.follows .mixedOrders && Region.noSelect ops && (π.length == ops.size) && okOrder ops (Array.replicate ops.size false) π) = true)
    (hQ : ∀ c d v a w, Q (.panic c) (Act.put a d v) w → Q (.panic c) a w)
    (h : wpP P ops Q S (π.map fun x => (nthOp ops.toList x.1, x.2)) a w.drew) : (Code.region id ops true).wp P Q a w := by
  simp only [Bool.and_eq_true, beq_iff_eq] at hm
  obtain ⟨⟨⟨h1, h2⟩, h3⟩, h4⟩ := hm
  refine wp_region_held (S := S) h1 ?_
  rw [← h3]
  exact wpAny_p h2 hQ π _ a _ (by rw [h3]; exact h4) h
section
variable {P : Program} {ops : Array Oper} {Q : Exit → Act → World → Prop} {S : World → Prop} {o : Oper} {r : List (Oper × Bool)} {a : Act} {w : World} {v : Value}
theorem wpP_nil (h : Q .normal a w) : wpP P ops Q S [] a w := h
theorem wpP_take (hS : Hid (S w)) (hw : Region.wanted o (yielded ops a.tmps) = true) (hv : ∀ w, S w → (execOp a.eval o).run P w = .ok (.value v) w) (h : wpP P ops Q S r (a.put o.dst v) w) : wpP P ops Q S ((o, true) :: r) a w := ⟨v, .inl ⟨hw, hv⟩, hS, h⟩
theorem wpP_do (h : ∀ K : Exit → Act → World → Prop, Hid (∀ a w, S w → wpP P ops Q S r a w → K .normal a w) → Hid (∀ c a w, Q (.panic c) a w → K (.panic c) a w) → wpList P ops K [o] a w) : wpP P ops Q S ((o, false) :: r) a w := fun Q' hQ' hP => h Q' hQ' hP
end
theorem el_key : El Try.prog 30 129 3 12 := El.mk' Try.underlying30 (z := .agg #[.int .u8 0, .int .u32 0, .int .u32 0]) (by kernel_rfl) rfl (by decide)
theorem ky_one (x : Ky) : ∀ u ∈ x.cells, u.oneCell' = true := by
  intro u hu
  simp only [Ky.cells, List.mem_cons, List.not_mem_nil, or_false] at hu
  rcases hu with rfl | rfl | rfl <;> rfl
def kyAt (xs : List Int) (p : Nat) : Ky := ⟨be ((xs.drop p).take 4), be ((xs.drop (p + 4)).take 4), be ((xs.drop (p + 8)).take 4)⟩
def kysAt (xs : List Int) (pos n : Nat) : List Ky := (List.range n).map fun i => kyAt xs (pos + 12 * i)
theorem kysAt_len (xs : List Int) (pos n : Nat) : (kysAt xs pos n).length = n := by simp [kysAt]
theorem kysAt_snoc (xs : List Int) (pos n : Nat) : kysAt xs pos (n + 1) = kysAt xs pos n ++ [kyAt xs (pos + 12 * n)] := by simp [kysAt, List.range_succ]
theorem kys_cells (L : List Ky) (x : Ky) : (L ++ [x]).flatMap Ky.cells = L.flatMap Ky.cells ++ x.cells := by simp [List.flatMap_append]
/-- Are bytes a row of keys? -/
def reqOk (xs : List Int) (pos : Nat) : Prop := (xs.length - pos) % 12 = 0 ∧ ∀ k ∈ kysAt xs pos ((xs.length - pos) / 12), k.t ≤ 255
def ReqP (w0 w w' : World) (g gp : Nat) (q : Rq) (xs : List Int) (pos : Nat) (t r a : Int) (e : Ending) : Prop :=
  (reqOk xs pos ∧ ∃ p : PA, e = .returned (.tuple #[]) ∧ PtY w0 w w' g gp q ⟨xs, xs.length, 0⟩ p ∧ p = { p0 t r a with KA := p.KA, kn := (xs.length - pos) / 12, kc := p.kc, ks := kysAt xs pos ((xs.length - pos) / 12) }) ∨
  (¬ reqOk xs pos ∧ (e = thrown 22 ∨ e = thrown 24) ∧ FlP w0 w w' g gp)
structure RqI (w0 w : World) (g gp gs : Nat) (q : Rq) (xs : List Int) (pos : Nat) (t r a : Int) (W : World) : Prop where
  ex : ∃ i A c, i ≤ c ∧ c ≤ 9223372036854775807 ∧ pos + 12 * i ≤ xs.length ∧ Hid (PkF w0 W g gp q ⟨xs, pos + 12 * i, 0⟩ { p0 t r a with KA := A, kn := i, kc := c }.C) ∧ Hid (W.ownsRow w.heap.size 129 3 (.slice A i c) i ((kysAt xs pos i).flatMap Ky.cells)) ∧ Hid (Kept (fun i => i = g ∨ i = gp) w W) ∧ Hid (SiBlk W gs g) ∧ Hid (∀ k ∈ kysAt xs pos i, k.t ≤ 255)
theorem tmod12 {a b : Nat} (h : b ≤ a) : ((a : Int) - (b : Int)).tmod 12 = (((a - b) % 12 : Nat) : Int) := by
  have e : ((a : Int) - (b : Int)) = ((a - b : Nat) : Int) := by omega
  rw [e]
  rfl
set_option maxRecDepth 100000 in
set_option maxHeartbeats 8000000 in
theorem req_any (w0 w : World) (g gp : Nat) (q : Rq) (xs : List Int) (pos : Nat) (t r a : Int) (h : PkF w0 w g gp q ⟨xs, pos, 0⟩ (p0 t r a).C) (hp : pos ≤ xs.length) (hn : xs.length ≤ 1073741824) :
    Calls Try.prog 55 #[.agg #[.pointer (some ⟨g, 0, none⟩)], .pointer (some ⟨gp, 0, none⟩)] w fun e w' => ReqP w0 w w' g gp q xs pos t r a e := by
  have hb0 : Below w.heap.size w (w.alloc (.cells #[.pointer (some ⟨g, 0, none⟩)] 101)) := (Below.refl _ _).alloc (Nat.le_refl _) _
  have HA := Lib.hid (And.intro h.r.b.size h.qa)
  have HAq := Lib.hid h.r.rs.addr
  have HF : Hid (PkF w0 (w.alloc (.cells #[.pointer (some ⟨g, 0, none⟩)] 101)).drew g gp q ⟨xs, pos, 0⟩ (p0 t r a).C) := Lib.hid ((h.later hb0).later (Below.refl _ _).drew)
  have HK : Hid (Kept (fun i => i = g ∨ i = gp) w (w.alloc (.cells #[.pointer (some ⟨g, 0, none⟩)] 101)).drew) := Lib.hid (Kept.of_new hb0 (fun i => i = g ∨ i = gp)).drew
  have HS : Hid (SiBlk (w.alloc (.cells #[.pointer (some ⟨g, 0, none⟩)] 101)).drew w.heap.size g) := Lib.hid ((Blk.new w 101 _).drewN 1)
  have HGs : Hid (w.heap.size ≠ g) := Lib.hid (by have := h.r.rs.blk.lt; omega)
  have HGp : Hid (w.heap.size ≠ gp) := Lib.hid (by have := h.k.lt; omega)
  have HGl : Hid (g < w.heap.size ∧ gp < w.heap.size) := Lib.hid ⟨h.r.rs.blk.lt, h.k.lt⟩
  obtain ⟨m, hmE⟩ : ∃ m, (xs.length - pos) % 12 = m := ⟨_, rfl⟩
  have hlft : ((xs.length : Int) - (pos : Int)).tmod 12 = (m : Int) := by rw [tmod12 hp, hmE]
  have HM := Lib.hid hmE
  clear h hb0 hmE
  by_cases hm : m = 0
  rotate_left
  · have hz : ((m : Int) == 0) = false := by simp; omega
    have hbad : Hid (¬ reqOk xs pos) := Lib.hid (fun h => hm (by rw [← HM.out]; exact h.1))
    clear hm
    go_enter Try.func55, Try.ntmps55
    go_wp2_with fail
    generalize hgs : w.heap.size = gs at HS HGs HGp ⊢
    clear hgs
    refine wp_region_p (fun W : World => SiBlk W gs g) [(1, true), (0, true), (2, true), (3, false), (4, true), (5, true), (6, false)] (by kernel_rfl) (fun _ d _ _ _ h => by cases d <;> exact h) ?_
    simp only [List.map_cons, List.map_nil, nthOp_zero, nthOp_succ]
    generalize (w.alloc (.cells #[.pointer (some ⟨g, 0, none⟩)] 101)).drew = v0 at *
    refine wpP_take HS (by rfl) (by intro W hW; clear hW; go_simp; try with_reducible rfl) ?_
    refine wpP_take HS (by rfl) (by intro W hW; unfold SiBlk at hW; have a0 := hW.cell 0; clear hW; simp at a0; go_simp; try with_reducible rfl) ?_
    refine wpP_take HS (by rfl) (by intro W hW; unfold SiBlk at hW; have a0 := hW.cell 0; clear hW; simp at a0; go_simp; try with_reducible rfl) ?_
    refine wpP_do fun K hK hP => ?_
    go_wp2_with fail
    refine (rr_left w0 v0 g q _ HF.out.r).mono ?_
    rintro e w2 ⟨rfl, kd, rfl⟩
    rw [left_of]
    replace HF := Lib.hid (HF.out.later (below_of_drewN _ v0 kd))
    replace HK := Lib.hid (HK.out.drewN kd)
    replace HS : Hid ((fun W : World => SiBlk W gs g) (v0.drewN kd)) := Lib.hid (HS.out.drewN kd)
    generalize v0.drewN kd = v1 at *
    go_wp2_with fail
    refine hK.out _ _ HS.out ?_
    clear hK hP K
    refine wpP_take HS (by rfl) (by intro W hW; clear hW; go_simp; try with_reducible rfl) ?_
    refine wpP_take HS (by rfl) (by intro W hW; clear hW; go_simp; try with_reducible rfl) ?_
    go_simp
    refine wpP_do fun K hK hP => ?_
    go_wp2_with fail
    refine (whole_s w0 v1 g q _ HF.out.r false).mono ?_
    rintro e w3 ⟨hor, hb3⟩
    obtain rfl : e = thrown 22 := by
      rcases hor with ⟨h, _⟩ | ⟨_, h⟩
      · exact absurd h.1 (by decide)
      · exact h
    have HB3 := Lib.hid (HF.out.fl2 HK.out rfl hb3)
    clear hor hb3
    go_wp2_with fail
    refine hP.out _ _ _ ?_
    go_wp2_with fail
    exact ⟨rfl, .inr ⟨hbad.out, .inl rfl, HB3.out⟩⟩
  · have hz : ((m : Int) == 0) = true := by simp; omega
    subst hm
    go_enter Try.func55, Try.ntmps55
    go_wp2_with fail
    generalize hgs : w.heap.size = gs at HS HGs HGp ⊢
    have HGS := Lib.hid hgs
    clear hgs
    refine wp_region_p (fun W : World => SiBlk W gs g) [(1, true), (0, true), (2, true), (3, false), (4, true), (5, true), (6, false)] (by kernel_rfl) (fun _ d _ _ _ h => by cases d <;> exact h) ?_
    simp only [List.map_cons, List.map_nil, nthOp_zero, nthOp_succ]
    generalize (w.alloc (.cells #[.pointer (some ⟨g, 0, none⟩)] 101)).drew = v0 at *
    refine wpP_take HS (by rfl) (by intro W hW; clear hW; go_simp; try with_reducible rfl) ?_
    refine wpP_take HS (by rfl) (by intro W hW; unfold SiBlk at hW; have a0 := hW.cell 0; clear hW; simp at a0; go_simp; try with_reducible rfl) ?_
    refine wpP_take HS (by rfl) (by intro W hW; unfold SiBlk at hW; have a0 := hW.cell 0; clear hW; simp at a0; go_simp; try with_reducible rfl) ?_
    refine wpP_do fun K hK hP => ?_
    go_wp2_with fail
    refine (rr_left w0 v0 g q _ HF.out.r).mono ?_
    rintro e w2 ⟨rfl, kd, rfl⟩
    rw [left_of]
    replace HF := Lib.hid (HF.out.later (below_of_drewN _ v0 kd))
    replace HK := Lib.hid (HK.out.drewN kd)
    replace HS : Hid ((fun W : World => SiBlk W gs g) (v0.drewN kd)) := Lib.hid (HS.out.drewN kd)
    generalize v0.drewN kd = v1 at *
    go_wp2_with fail
    refine hK.out _ _ HS.out ?_
    clear hK hP K
    refine wpP_take HS (by rfl) (by intro W hW; clear hW; go_simp; try with_reducible rfl) ?_
    refine wpP_take HS (by rfl) (by intro W hW; clear hW; go_simp; try with_reducible rfl) ?_
    go_simp
    refine wpP_do fun K hK hP => ?_
    go_wp2_with fail
    refine (whole_s w0 v1 g q _ HF.out.r true).mono ?_
    rintro e w3 ⟨hor, hb3⟩
    obtain rfl : e = .returned (.tuple #[]) := by
      rcases hor with ⟨_, h⟩ | ⟨h, _⟩
      · exact h
      · exact absurd ⟨rfl, rfl⟩ h
    replace HF := Lib.hid (HF.out.later hb3)
    replace HK := Lib.hid (HK.out.trans (Kept.of_new hb3 (fun i => i = g ∨ i = gp)) (fun _ _ e => e))
    replace HS : Hid ((fun W : World => SiBlk W gs g) w3) := Lib.hid (Blk.later HS.out hb3)
    clear hor hb3
    go_wp2_with fail
    refine hK.out _ _ HS.out ?_
    clear hK hP K
    refine wpP_nil ?_
    go_simp
    go_wp2_with fail
    go_loopw [] (RqI w0 w g gp gs q xs pos t r a) (fun W => rdLeft xs.length W g)
    case atStart => exact ⟨0, none, 0, by omega, by omega, by omega, HF, Lib.hid (by simp [World.ownsRow, kysAt]), HK, HS, Lib.hid (by simp [kysAt])⟩
    case round =>
      obtain ⟨i, A, c, hic, hcm, hpi, hF, hO, hK, hS, hAl⟩ := hrel
      clear HF HK HS hlft hz
      obtain ⟨p, hpe⟩ : ∃ p, pos + 12 * i = p := ⟨_, rfl⟩
      rw [hpe] at hF hpi
      have HPe := Lib.hid hpe
      have HMs : Hid (rdLeft xs.length wr g = 1 + (xs.length - p)) := Lib.hid (by rw [rdLeft_eq hF.out.r]; simp)
      have s0 : wr.cell? ⟨gs, 0, none⟩ = some (.pointer (some ⟨g, 0, none⟩)) := by have := hS.out.cell 0; simpa using this
      clear hpe
      go_wp2_with fail
      refine (rr_left w0 wr g q _ hF.out.r).mono ?_
      rintro e w5 ⟨rfl, k, rfl⟩
      rw [left_of]
      have HF := Lib.hid (hF.out.later (below_of_drewN _ wr k))
      have HK := Lib.hid (hK.out.drewN k)
      have HO := Lib.hid (own_kept hO.out ((Kept.refl (fun _ => False) wr).drewN k) (fun _ _ h => h))
      have HS : Hid (SiBlk (wr.drewN k) gs g) := Lib.hid (hS.out.drewN k)
      clear hF hK hO hS s0
      generalize wr.drewN k = w5 at *
      by_cases hl : p < xs.length
      · have hd : decide ((0 : Int) < (xs.length : Int) - (p : Int)) = true := decide_eq_true (by omega)
        have h12 : p + 12 ≤ xs.length := by have := HPe.out; have := HM.out; omega
        have s0 : w5.cell? ⟨gs, 0, none⟩ = some (.pointer (some ⟨g, 0, none⟩)) := by have := HS.out.cell 0; simpa using this
        go_wp2_with fail
        clear s0
        refine (rr_numx w0 w5 g q _ HF.out.r 4 (by decide) (by decide)).mono ?_
        rintro e w6 ⟨x1, r1, rfl, hN, hr, hk⟩
        have hx1 : 0 ≤ x1 ∧ x1 < 4294967296 := ⟨hN.lo, by have := hN.hi; omega⟩
        obtain ⟨hv1, rfl⟩ := hN.fit rfl (by simp only; omega)
        have HV1 : Hid (x1 = be ((xs.drop p).take 4)) := hv1
        replace HF : Hid (PkF w0 w6 g gp q ⟨xs, p + 4, 0⟩ _) := Lib.hid (HF.out.step hk hr)
        replace HO := Lib.hid (own_kept HO.out hk (fun j hj e => by have h1 := (own_ge HO.out hj).1; have h2 := HGl.out.1; have h4 : j = g := e; omega))
        replace HK := Lib.hid (HK.out.trans (hk.mono (T := fun i => i = g ∨ i = gp) fun i _ e => .inl e) (fun _ _ e => e))
        replace HS : Hid (SiBlk w6 gs g) := Lib.hid (SiBlk.keep HS.out hk HGs.out)
        clear hN hr hk hv1
        have HIn : Hid (i < (xs.length - pos) / 12) := Lib.hid (by have := HPe.out; omega)
        by_cases h255 : 255 < x1
        · have hbad : Hid (¬ reqOk xs pos) := Lib.hid (fun h => by
            have := h.2 (kyAt xs (pos + 12 * i)) (List.mem_map.2 ⟨i, List.mem_range.2 HIn.out, rfl⟩)
            have e : (kyAt xs (pos + 12 * i)).t = x1 := by rw [HPe.out, HV1.out]; rfl
            omega)
          have hmi := fun W => mk_errno 24 W
          go_wp2_with fail
          exact ⟨rfl, .inr ⟨hbad.out, .inr rfl, HF.out.fl HK.out rfl⟩⟩
        · have wx1 : IntKind.u8.wrap x1 = x1 := by simp [IntKind.wrap, IntKind.bits, IntKind.signed]; omega
          go_wp2_with fail
          have HSS : Hid ((fun W : World => SiBlk W gs g ∧ W.cell? ⟨gp, 16, none⟩ = some (.slice A i c)) w6.drew) := Lib.hid ⟨HS.out.drewN 1, HF.out.k.cell 16⟩
          refine wp_region_g (fun W : World => SiBlk W gs g ∧ W.cell? ⟨gp, 16, none⟩ = some (.slice A i c)) [.take 0, .take 1, .take 2, .take 3, .take 5, .take 6, .take 7, .take 10, .take 4, .take 8, .take 11, .one 9, .one 12, .take 13, .one 14, .one 15, .take 16, .take 17, .one 18] (by kernel_rfl) (fun _ d _ _ _ h => by cases d <;> exact h) ?_
          simp only [List.map_cons, List.map_nil, RStep.node, nthOp_zero, nthOp_succ]
          replace HF := Lib.hid (HF.out.later (Below.refl _ _).drew)
          replace HK := Lib.hid (HK.out.drewN 1)
          replace HO := Lib.hid (own_kept HO.out ((Kept.refl (fun _ => False) w6).drewN 1) (fun _ _ h => h))
          replace HK : Hid (Kept (fun i => i = g ∨ i = gp) w w6.drew) := HK
          replace HO : Hid (w6.drew.ownsRow w.heap.size 129 3 (.slice A i c) i ((kysAt xs pos i).flatMap Ky.cells)) := HO
          clear HS
          generalize w6.drew = q0 at *
          refine wpG_take HSS (by rfl) (by intro W hW; clear hW; go_simp; try with_reducible rfl) ?_
          refine wpG_take HSS (by rfl) (by intro W hW; clear hW; go_simp; try with_reducible rfl) ?_
          refine wpG_take HSS (by rfl) (by intro W hW; clear hW; go_simp; try with_reducible rfl) ?_
          refine wpG_take HSS (by rfl) (by intro W hW; clear hW; go_simp; try with_reducible rfl) ?_
          go_simp
          refine wpG_take HSS (by rfl) (by intro W hW; clear hW; go_simp; try with_reducible rfl) ?_
          refine wpG_take HSS (by rfl) (by intro W hW; clear hW; go_simp; try with_reducible rfl) ?_
          refine wpG_take HSS (by rfl) (by intro W hW; clear hW; go_simp; try with_reducible rfl) ?_
          refine wpG_take HSS (by rfl) (by intro W hW; clear hW; go_simp; try with_reducible rfl) ?_
          go_simp
          refine wpG_take HSS (by rfl) (by intro W hW; obtain ⟨hs, c16⟩ := hW; unfold SiBlk at hs; have a0 := hs.cell 0; clear hs; simp at a0; go_simp; try with_reducible rfl) ?_
          refine wpG_take HSS (by rfl) (by intro W hW; obtain ⟨hs, c16⟩ := hW; unfold SiBlk at hs; have a0 := hs.cell 0; clear hs; simp at a0; go_simp; try with_reducible rfl) ?_
          refine wpG_take HSS (by rfl) (by intro W hW; obtain ⟨hs, c16⟩ := hW; unfold SiBlk at hs; have a0 := hs.cell 0; clear hs; simp at a0; go_simp; try with_reducible rfl) ?_
          go_simp
          refine wpG_do fun K hK => ?_
          go_wp2_with fail
          refine (rr_numx w0 q0 g q _ HF.out.r 4 (by decide) (by decide)).mono ?_
          rintro e q1 ⟨x2, r2, rfl, hN, hr, hk⟩
          have hx2 : 0 ≤ x2 ∧ x2 < 4294967296 := ⟨hN.lo, by have := hN.hi; omega⟩
          obtain ⟨hv, rfl⟩ := hN.fit rfl (by simp only; omega)
          have HV2 : Hid (x2 = be ((xs.drop (p + 4)).take 4)) := hv
          replace HF : Hid (PkF w0 q1 g gp q ⟨xs, p + 4 + 4, 0⟩ _) := Lib.hid (HF.out.step hk hr)
          replace HO := Lib.hid (own_kept HO.out hk (fun j hj e => by have h1 := (own_ge HO.out hj).1; have h2 := HGl.out.1; have h4 : j = g := e; omega))
          replace HK := Lib.hid (HK.out.trans (hk.mono (T := fun i => i = g ∨ i = gp) fun i _ e => .inl e) (fun _ _ e => e))
          replace HSS : Hid ((fun W : World => SiBlk W gs g ∧ W.cell? ⟨gp, 16, none⟩ = some (.slice A i c)) q1) := Lib.hid ⟨SiBlk.keep HSS.out.1 hk HGs.out, HF.out.k.cell 16⟩
          clear hN hr hk hv
          go_wp2_with fail
          refine hK.out _ _ HSS.out ?_
          clear hK K
          go_simp
          refine wpG_do fun K hK => ?_
          go_wp2_with fail
          refine (rr_numx w0 q1 g q _ HF.out.r 4 (by decide) (by decide)).mono ?_
          rintro e q2 ⟨x3, r3, rfl, hN, hr, hk⟩
          have hx3 : 0 ≤ x3 ∧ x3 < 4294967296 := ⟨hN.lo, by have := hN.hi; omega⟩
          obtain ⟨hv, rfl⟩ := hN.fit rfl (by simp only; omega)
          have HV3 : Hid (x3 = be ((xs.drop (p + 8)).take 4)) := hv
          replace HF : Hid (PkF w0 q2 g gp q ⟨xs, p + 8 + 4, 0⟩ _) := Lib.hid (HF.out.step hk hr)
          replace HO := Lib.hid (own_kept HO.out hk (fun j hj e => by have h1 := (own_ge HO.out hj).1; have h2 := HGl.out.1; have h4 : j = g := e; omega))
          replace HK := Lib.hid (HK.out.trans (hk.mono (T := fun i => i = g ∨ i = gp) fun i _ e => .inl e) (fun _ _ e => e))
          replace HSS : Hid ((fun W : World => SiBlk W gs g ∧ W.cell? ⟨gp, 16, none⟩ = some (.slice A i c)) q2) := Lib.hid ⟨SiBlk.keep HSS.out.1 hk HGs.out, HF.out.k.cell 16⟩
          clear hN hr hk hv
          go_wp2_with fail
          refine hK.out _ _ HSS.out ?_
          clear hK K
          refine wpG_take HSS (by rfl) (by intro W hW; clear hW; go_simp; try with_reducible rfl) ?_
          go_simp
          refine wpG_do fun K hK => ?_
          go_wp2_with fail
          have hb5 : Below q2.heap.size q2 (q2.alloc (.cells #[.int .u8 x1, .int .u32 x2, .int .u32 x3] 129)) := (Below.refl _ _).alloc (Nat.le_refl _) _
          have HBl := Blk.new q2 129 #[.int .u8 x1, .int .u32 x2, .int .u32 x3]
          have HRd : Hid (Reads (q2.alloc (.cells #[.int .u8 x1, .int .u32 x2, .int .u32 x3] 129)) (q2.alloc (.cells #[.int .u8 x1, .int .u32 x2, .int .u32 x3] 129)).heap.size 3 (some ⟨q2.heap.size, 0, none⟩) 1 (Ky.cells ⟨x1, x2, x3⟩)) := Lib.hid ⟨rfl, fun _ => ⟨_, rfl, HBl.lt, fun j u hu => by rw [add_none, Nat.zero_add, HBl.cell]; simpa [Ky.cells] using hu⟩⟩
          replace HF := Lib.hid (HF.out.later hb5)
          replace HK := Lib.hid (HK.out.trans (Kept.of_new hb5 (fun i => i = g ∨ i = gp)) (fun _ _ e => e))
          replace HO := Lib.hid (own_kept HO.out (Kept.of_new hb5 (fun _ => False)) (fun _ _ h => h))
          replace HSS : Hid ((fun W : World => SiBlk W gs g ∧ W.cell? ⟨gp, 16, none⟩ = some (.slice A i c)) (q2.alloc (.cells #[.int .u8 x1, .int .u32 x2, .int .u32 x3] 129))) := Lib.hid ⟨Blk.later HSS.out.1 hb5, HF.out.k.cell 16⟩
          have hbase : w.heap.size ≤ (q2.alloc (.cells #[.int .u8 x1, .int .u32 x2, .int .u32 x3] 129)).heap.size := HK.out.size
          clear hb5 HBl
          refine hK.out _ _ HSS.out ?_
          clear hK K
          generalize q2.heap.size = gy at *
          generalize q2.alloc (.cells #[.int .u8 x1, .int .u32 x2, .int .u32 x3] 129) = q3 at *
          refine wpG_do fun K hK => ?_
          have hi12 : 12 * i ≤ xs.length := by have := HPe.out; omega
          refine wpList_app el_key rfl (.tmp 26) (.tmp 36) rfl HO.out rfl HRd.out rfl (ky_one _) (by simp only [maxLen]; omega) (by omega) hbase ?_
          intro v5 q4 ho9 hb9 hg9 hn9
          obtain ⟨A5, c5, hv5, hc5, hcm5, -⟩ := own_shape_n ho9
          subst hv5
          rw [← kys_cells] at ho9
          have k9 := Kept.of_grown hg9
          have hog : ∀ j, (Value.slice A i c).ownBlock = some j → w.heap.size ≤ j := fun j hj => (own_ge HO.out hj).1
          have HF4 : Hid (PkF w0 q4 g gp q ⟨xs, p + 12, 0⟩ { p0 t r a with KA := A, kn := i, kc := c }.C) := Lib.hid ⟨HF.out.r.kept k9 (fun e => by have h1 := hog g e; have h2 := HGl.out.1; omega) (fun hn ad e e' => by have h1 := hog _ e'; have h2 := HAq.out hn ad e; omega) (fun j e => by have h1 := hog j e; have h2 := HA.out.1; omega), HF.out.k.kept k9 (fun e => own_blk_ne HO.out HF.out.k (by decide) e), HF.out.ne, HF.out.base, HF.out.qa⟩
          have HK4 := Lib.hid (HK.out.trans (k9.mono (T := fun j => w.heap.size ≤ j) fun j _ e => hog j e) (fun j hj e => absurd hj (by omega)))
          have HS4 : Hid ((fun W : World => SiBlk W gs g ∧ W.cell? ⟨gp, 16, none⟩ = some (.slice A i c)) q4) := Lib.hid ⟨Blk.kept HSS.out.1 k9 (fun e => own_blk_ne HO.out HSS.out.1 (by decide) e), HF4.out.k.cell 16⟩
          have HO4 := Lib.hid ho9
          clear ho9 hb9 hg9 hn9 k9 hog HF HK HO HSS HRd hbase
          refine hK.out _ _ HS4.out ?_
          clear hK K
          refine wpG_take HS4 (by rfl) (by intro W hW; clear hW; go_simp; try with_reducible rfl) ?_
          refine wpG_take HS4 (by rfl) (by intro W hW; clear hW; go_simp; try with_reducible rfl) ?_
          go_simp
          refine wpG_last fun K hK => ?_
          have f16 := HF4.out.k.frozen 16
          have y16 := HF4.out.k.cell 16
          simp at y16
          go_wp2_with fail
          have HF5 := Lib.hid (HF4.out.put 16 (.slice A5 (i + 1) c5))
          have HK5 := Lib.hid (HK4.out.setCell (p := ⟨gp, 16, none⟩) (fun _ => .inr rfl) (.slice A5 (i + 1) c5))
          have HO5 := Lib.hid (own_kept HO4.out (kept_setC q4 gp 16 (.slice A5 (i + 1) c5)) (fun j hj e => own_blk_ne HO4.out HF4.out.k (by decide) (by rw [hj]; exact congrArg some e)))
          have HS5 : Hid (SiBlk (q4.setCell ⟨gp, 16, none⟩ (.slice A5 (i + 1) c5)) gs g) := Lib.hid (Blk.far (p := ⟨gp, 16, none⟩) HS4.out.1 HGp.out (.slice A5 (i + 1) c5))
          clear f16 y16
          refine hK.out _ _ ?_
          clear hK K
          generalize q4.setCell ⟨gp, 16, none⟩ (.slice A5 (i + 1) c5) = q5 at *
          have HPe2 : p + 12 = pos + 12 * (i + 1) := by have := HPe.out; omega
          have HO6 : Hid (q5.ownsRow w.heap.size 129 3 (.slice A5 (i + 1) c5) (i + 1) ((kysAt xs pos (i + 1)).flatMap Ky.cells)) := Lib.hid (by
            rw [kysAt_snoc, HPe.out, show kyAt xs p = ⟨x1, x2, x3⟩ by rw [HV1.out, HV2.out, HV3.out]; rfl]
            exact HO5.out)
          have HAl2 : Hid (∀ k ∈ kysAt xs pos (i + 1), k.t ≤ 255) := Lib.hid (fun k hk => by
            rw [kysAt_snoc, List.mem_append] at hk
            rcases hk with hk | hk
            · exact hAl.out k hk
            · rw [List.mem_singleton] at hk
              subst hk
              have e : (kyAt xs (pos + 12 * i)).t = x1 := by rw [HPe.out, HV1.out]; rfl
              omega)
          go_wp2
          try go_simp
          go_roundw
          case rel => exact ⟨i + 1, A5, c5, hc5, hcm5, by omega, by rw [← HPe2]; exact HF5, HO6, HK5, HS5, HAl2⟩
          case measure =>
            rw [HMs.out, rdLeft_eq HF5.out.r]
            simp
            omega
      · have hd : decide ((0 : Int) < (xs.length : Int) - (p : Int)) = false := decide_eq_false (by omega)
        have hpx : p = xs.length := by omega
        have hq : (xs.length - pos) / 12 = i := by have := HPe.out; omega
        have HQ := Lib.hid (And.intro hpx hq)
        clear hpx hq
        go_wp2_with fail
        go_end0
        refine .inl ⟨⟨HM.out, by rw [HQ.out.2]; exact hAl.out⟩, { p0 t r a with KA := A, kn := i, kc := c, ks := kysAt xs pos i }, rfl, ⟨?_, HK.out, World.ownsRow_nil _ _ _ _, own_nil _ _ _ _, HO.out, own_nil _ _ _ _⟩, by rw [HQ.out.2]⟩
        have := HF.out
        rw [HQ.out.1] at this
        exact this
end Go.Proofs.Ytbkejlalbjomkaa
