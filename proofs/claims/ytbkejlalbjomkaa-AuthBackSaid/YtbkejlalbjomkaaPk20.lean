/-
  Packets' parts, read: update.
-/
import Derived.Test.YtbkejlalbjomkaaPk11
import Derived.Test.YtbkejlalbjomkaaPkC
import Derived.Test.YtbkejlalbjomkaaPkD
namespace Go.Proofs.Ytbkejlalbjomkaa
set_option linter.unusedVariables false
open Go.RowKit Go.ChangeShapes Go.WideShapes

/-- The states that stand in bytes one behind the other, n of them, and nothing behind. -/
def upS : Nat → List Int → Option (List (Hd × List Int))
  | 0, ys => if ys.length = 0 then some [] else none
  | n + 1, ys => if rdE ys = 0 then (upS n (ys.drop (hdAt ys 0).len.toNat)).map fun L => (hdAt ys 0, (ys.take (hdAt ys 0).len.toNat).drop 20) :: L else none
/-- Bytes that are cut from a row of their own. -/
structure Cut (w W : World) (A : Option Addr) (n c : Nat) (ys : List Int) : Prop where
  len : ys.length = n
  c : n ≤ c ∧ c ≤ 9223372036854775807
  oct : Oct ys
  r : n = 0 ∨ ∃ gb off cur, A = some ⟨gb, off, none⟩ ∧ Blk W gb 5 cur ∧ w.heap.size ≤ gb ∧ ∀ j u, (u8s ys)[j]? = some u → cur[off + j]? = some u
theorem u8s_len (ys : List Int) : (u8s ys).length = ys.length := by simp [u8s]
theorem Cut.reads {w W : World} {A : Option Addr} {n c : Nat} {ys : List Int} (h : Cut w W A n c ys) : Reads W W.heap.size 1 A n (u8s ys) := by
  refine ⟨by rw [u8s_len, h.len, Nat.mul_one], fun hn => ?_⟩
  rcases h.r with h0 | ⟨gb, off, cur, rfl, hb, _, hc⟩
  · omega
  · exact ⟨_, rfl, hb.lt, fun j u hu => by
      rw [add_none, hb.cell]
      exact hc j u hu⟩
theorem Cut.kept {w W W' : World} {A : Option Addr} {n c : Nat} {ys : List Int} {S : Nat → Prop} (h : Cut w W A n c ys) (k : Kept S W W') (hS : ∀ gb cur, Blk W gb 5 cur → w.heap.size ≤ gb → ¬ S gb) : Cut w W' A n c ys := by
  refine ⟨h.len, h.c, h.oct, ?_⟩
  rcases h.r with h0 | ⟨gb, off, cur, hA, hb, hg, hc⟩
  · exact .inl h0
  · exact .inr ⟨gb, off, cur, hA, hb.kept k (hS gb cur hb hg), hg, hc⟩
theorem Cut.later {w W W' : World} {A : Option Addr} {n c : Nat} {ys : List Int} (h : Cut w W A n c ys) (hb : Below W.heap.size W W') : Cut w W' A n c ys := h.kept (Kept.of_new hb (fun _ => False)) (fun _ _ _ _ h => h)
theorem Cut.put {w W : World} {A : Option Addr} {n c gx : Nat} {ys : List Int} {C : Array Value} (h : Cut w W A n c ys) (k : Blk W gx 33 C) (i : Nat) (u : Value) : Cut w (W.setCell ⟨gx, i, none⟩ u) A n c ys :=
  h.kept (kept_setC W gx i u) (fun gb cur hb _ e => by
    have e' : gb = gx := e
    subst e'
    unfold Blk at hb k
    rw [hb] at k
    injection k with k
    injection k with _ k
    exact absurd k (by decide))
/-- What is cut off in front. -/
theorem Cut.cut {w W : World} {A : Option Addr} {n c m : Nat} {ys : List Int} (h : Cut w W A n c ys) (hm : m ≤ n) : Cut w W (A.map fun x => ⟨x.block, x.off + m, none⟩) (n - m) (c - m) (ys.drop m) := by
  refine ⟨by rw [List.length_drop, h.len], ⟨by have := h.c; omega, by have := h.c; omega⟩, h.oct.drop m, ?_⟩
  rcases h.r with h0 | ⟨gb, off, cur, rfl, hb, hg, hc⟩
  · exact .inl (by omega)
  · refine .inr ⟨gb, off + m, cur, rfl, hb, hg, fun j u hu => ?_⟩
    rw [← u8s_drop, List.getElem?_drop] at hu
    rw [Nat.add_assoc]
    exact hc (m + j) u hu
theorem Cut.done {w W : World} {A : Option Addr} {n m : Nat} {ys : List Int} (h : Cut w W A n m ys) (hm : m ≤ n) : Cut w W A (n - m) 0 (ys.drop m) := by
  have := h.c
  exact ⟨by rw [List.length_drop, h.len], ⟨by omega, by omega⟩, h.oct.drop m, .inl (by omega)⟩
theorem Cut.sub {w W : World} {A : Option Addr} {n c m : Nat} {ys : List Int} (h : Cut w W A n c ys) (hm : m ≤ n) : Cut w W (if c = m then A else A.map fun x => x.add m) (n - m) (c - m) (ys.drop m) := by
  split
  · rename_i e
    subst e
    have := h.done hm
    rwa [Nat.sub_self]
  · have := h.cut hm
    rcases h.r with h0 | ⟨gb, off, cur, rfl, hb, hg, hc⟩
    · exact ⟨this.len, this.c, this.oct, .inl (by omega)⟩
    · rw [show Option.map (fun x : Addr => x.add m) (some ⟨gb, off, none⟩) = some ⟨gb, off + m, none⟩ by rw [Option.map_some, add_none]]
      exact this
theorem Cut.of_own {w W : World} {A : Option Addr} {n c : Nat} {ys : List Int} (h : W.ownsRow w.heap.size 5 1 (.slice A n c) n (u8s ys)) (ho : Oct ys) : Cut w W A n c ys := by
  have hl : ys.length = n := by have := h.1; rw [u8s_len] at this; omega
  rcases h.2 with ⟨hv, hn⟩ | ⟨g, cap, cur, hv, hg, hb, hc, hm, hs, ht⟩
  · have e : A = none ∧ n = 0 ∧ c = 0 := by simpa using hv
    obtain ⟨rfl, rfl, rfl⟩ := e
    exact ⟨hl, by omega, ho, .inl rfl⟩
  · have e : A = some ⟨g, 0, none⟩ ∧ c = cap := by simpa using hv
    obtain ⟨rfl, rfl⟩ := e
    refine ⟨hl, ⟨hc, by unfold maxLen at hm; exact hm⟩, ho, .inr ⟨g, 0, cur, rfl, hb, hg, fun j u hu => ?_⟩⟩
    rw [← ht] at hu
    rw [Nat.zero_add]
    rw [List.getElem?_take] at hu
    split at hu
    · simpa using hu
    · cases hu
def UpP (w0 w w' : World) (g gp : Nat) (q : Rq) (xs : List Int) (pos : Nat) (t r a : Int) (e : Ending) : Prop :=
  (∃ L, ∃ p : PA, (pos + 4 ≤ xs.length ∧ upS (be ((xs.drop pos).take 4)).toNat (xs.drop (pos + 4)) = some L) ∧ e = .returned (.tuple #[]) ∧ PtY w0 w w' g gp q ⟨xs, xs.length, 0⟩ p ∧ StsY w w' p.SA p.sn p.sc p.ss ∧ p.ss.length = p.sn ∧ p.ss.map SE.hb = L ∧ p = { p0 t r a with SA := p.SA, sn := p.sn, sc := p.sc, ss := p.ss }) ∨
  (¬ (pos + 4 ≤ xs.length ∧ ∃ L, upS (be ((xs.drop pos).take 4)).toNat (xs.drop (pos + 4)) = some L) ∧ e = thrown 22 ∧ FlP w0 w w' g gp)
structure UpI (w0 w : World) (g gp gs : Nat) (q : Rq) (xs : List Int) (pos : Nat) (t r a : Int) (nv rv : Value) (W : World) : Prop where
  ex : ∃ (k : Nat) (A : Option Addr) (n c : Nat) (ys : List Int) (SAA : Option Addr) (i sc : Nat) (L : List SE), nv = .int .u32 k ∧ rv = .slice A n c ∧ i ≤ sc ∧ sc ≤ 9223372036854775807 ∧ 20 * i + n ≤ xs.length ∧ k ≤ 4294967295 ∧
    Hid (PkF w0 W g gp q ⟨xs, xs.length, 0⟩ { p0 t r a with SA := SAA, sn := i, sc := sc }.C) ∧ Hid (StsY w W SAA i sc L) ∧ Hid (L.length = i) ∧ Hid (Kept (fun i => i = g ∨ i = gp) w W) ∧ Hid (SiBlk W gs g) ∧ Hid (Cut w W A n c ys) ∧ Hid (upS (be ((xs.drop pos).take 4)).toNat (xs.drop (pos + 4)) = (upS k ys).map fun R => L.map SE.hb ++ R)
theorem rd_rest {xs : List Int} {p : Nat} (h : p ≤ xs.length) : (⟨xs, p, 0⟩ : Rd).bytes ((xs.length - p : Nat) : Int) = xs.drop p ∧ ((⟨xs, p, 0⟩ : Rd).next ((xs.length - p : Nat) : Int)).2 = ⟨xs, xs.length, 0⟩ := by
  obtain ⟨h1, h2⟩ := rd_take (xs := xs) (p := p) (k := xs.length - p) (by omega)
  rw [h1, h2]
  refine ⟨List.take_of_length_le (by rw [List.length_drop]; exact Nat.le_refl _), ?_⟩
  rw [show p + (xs.length - p) = xs.length by omega]
theorem exec_load_row {P : Program} {o : Oper} {a : Act} {w : World} {ty : TypeId} {x : Operand} (ho : o.op = .load ty x)
    {g : Nat} (hx : a.eval x = .pointer (some ⟨g, 0, none⟩)) {t : TypeId} {cs : Array Value} {d : TypeDesc} (hg : Blk w g t cs)
    (hu : P.underlying ty = some d) (hd : (match d with | .struct _ | .array _ _ => true | _ => false) = true) (hi : (P.info? ty).map (·.size) = some cs.size) :
    (execOp a.eval o).run P w = .ok (.value (.agg cs)) w := by
  unfold execOp
  simp only [ho, hx, Instr.loadAt, Instr.sureAddr, Sem.run_bind, Sem.run_pure, Result.andThen_ok, run_loadVar_row w g t ty cs (0, 0) d hg hu hd hi]
theorem rdE_yes {xs : List Int} (he : rdE xs = 0) : 20 ≤ xs.length ∧ 20 ≤ (hdAt xs 0).len ∧ (hdAt xs 0).len ≤ xs.length := by
  unfold rdE at he
  split at he
  · cases he
  · split at he
    · cases he
    · split at he
      · cases he
      · omega
theorem up_left {xs : List Int} {pos : Nat} {x1 : Int} {r1 : Rd} (n : NumR ⟨xs, pos, 0⟩ 4 x1 r1) (hn : xs.length ≤ 1073741824) : ∃ k0 : Nat, r1.left = k0 ∧ k0 ≤ 1073741824 ∧
    ((r1.next k0).2.e = 0 → pos + 4 ≤ xs.length ∧ x1 = be ((xs.drop pos).take 4) ∧ r1.bytes k0 = xs.drop (pos + 4) ∧ (r1.next k0).2 = ⟨xs, xs.length, 0⟩) ∧ ((r1.next k0).2.e ≠ 0 → ¬ pos + 4 ≤ xs.length) := by
  rcases n.cases with ⟨_, hl, hv, rfl⟩ | ⟨h, _, he⟩
  · simp only at hl hv
    obtain ⟨h1, h2⟩ := rd_rest (xs := xs) (p := pos + 4) hl
    refine ⟨xs.length - (pos + 4), by rw [left_of]; simp only; omega, by omega, ?_, ?_⟩
    · intro _
      exact ⟨hl, hv, h1, h2⟩
    · rw [h2]
      intro h
      exact absurd rfl h
  · refine ⟨0, by unfold Rd.left; rw [if_neg he]; rfl, by omega, ?_, ?_⟩
    · intro h0
      unfold Rd.next at h0
      rw [if_neg he] at h0
      exact absurd h0 he
    · intro _
      rcases h with h | h
      · exact absurd rfl h
      · simp only at h; omega
set_option maxRecDepth 100000 in
set_option maxHeartbeats 8000000 in
theorem up_any (w0 w : World) (g gp : Nat) (q : Rq) (xs : List Int) (pos : Nat) (t r a : Int) (h : PkF w0 w g gp q ⟨xs, pos, 0⟩ (p0 t r a).C) (hp : pos ≤ xs.length) (hn : xs.length ≤ 1073741824) :
    Calls Try.prog 56 #[.agg #[.pointer (some ⟨g, 0, none⟩)], .pointer (some ⟨gp, 0, none⟩)] w fun e w' => UpP w0 w w' g gp q xs pos t r a e := by
  have hb0 : Below w.heap.size w (w.alloc (.cells #[.pointer (some ⟨g, 0, none⟩)] 101)) := (Below.refl _ _).alloc (Nat.le_refl _) _
  have HA := Lib.hid (And.intro h.r.b.size h.qa)
  have HAq := Lib.hid h.r.rs.addr
  have HF : Hid (PkF w0 (w.alloc (.cells #[.pointer (some ⟨g, 0, none⟩)] 101)) g gp q ⟨xs, pos, 0⟩ (p0 t r a).C) := Lib.hid (h.later hb0)
  have HK : Hid (Kept (fun i => i = g ∨ i = gp) w (w.alloc (.cells #[.pointer (some ⟨g, 0, none⟩)] 101))) := Lib.hid (Kept.of_new hb0 (fun i => i = g ∨ i = gp))
  have HS : Hid (SiBlk (w.alloc (.cells #[.pointer (some ⟨g, 0, none⟩)] 101)) w.heap.size g) := Lib.hid (Blk.new w 101 _)
  have HGs : Hid (w.heap.size ≠ g) := Lib.hid (by have := h.r.rs.blk.lt; omega)
  have HGp : Hid (w.heap.size ≠ gp) := Lib.hid (by have := h.k.lt; omega)
  have HGl : Hid (g < w.heap.size ∧ gp < w.heap.size) := Lib.hid ⟨h.r.rs.blk.lt, h.k.lt⟩
  have s0 : (w.alloc (.cells #[.pointer (some ⟨g, 0, none⟩)] 101)).cell? ⟨w.heap.size, 0, none⟩ = some (.pointer (some ⟨g, 0, none⟩)) := by have := HS.out.cell 0; exact this
  clear h hb0
  go_enter Try.func56, Try.ntmps56
  go_wp2_with fail
  generalize hgs : w.heap.size = gs at HS HGs HGp s0 ⊢
  have HGS := Lib.hid hgs
  clear hgs s0
  generalize w.alloc (.cells #[.pointer (some ⟨g, 0, none⟩)] 101) = w1 at *
  refine (rr_numx w0 w1 g q _ HF.out.r 4 (by decide) (by decide)).mono ?_
  rintro e w2 ⟨x1, r1, rfl, hN, hr, hk⟩
  have hx1 : 0 ≤ x1 ∧ x1 < 4294967296 := ⟨hN.lo, by have := hN.hi; omega⟩
  replace HF : Hid (PkF w0 w2 g gp q r1 _) := Lib.hid (HF.out.step hk hr)
  replace HK := Lib.hid (HK.out.trans (hk.mono (T := fun i => i = g ∨ i = gp) fun i _ e => .inl e) (fun _ _ e => e))
  replace HS : Hid (SiBlk w2 gs g) := Lib.hid (SiBlk.keep HS.out hk HGs.out)
  have HN := Lib.hid hN
  clear hN hr hk
  obtain ⟨k0, hk0, hk1, hk2, hk3⟩ := up_left HN.out hn
  have HC := Lib.hid (And.intro hk2 hk3)
  clear HN hk2 hk3
  go_wp2_with fail
  refine wp_region_p (fun W : World => SiBlk W gs g) [(0, true), (2, true), (1, true), (3, true), (4, false), (5, false), (6, true)] (by kernel_rfl) (fun _ d _ _ _ h => by cases d <;> exact h) ?_
  simp only [List.map_cons, List.map_nil, nthOp_zero, nthOp_succ]
  replace HF := Lib.hid (HF.out.later (Below.refl _ _).drew)
  replace HK : Hid (Kept (fun i => i = g ∨ i = gp) w w2.drew) := Lib.hid (HK.out.drewN 1)
  replace HS : Hid (SiBlk w2.drew gs g) := Lib.hid (HS.out.drewN 1)
  generalize w2.drew = w3 at *
  refine wpP_take HS (by rfl) (by intro W hW; clear hW; go_simp; try with_reducible rfl) ?_
  refine wpP_take HS (by rfl) (by intro W hW; clear hW; go_simp; try with_reducible rfl) ?_
  refine wpP_take HS (by rfl) (by intro W hW; unfold SiBlk at hW; have a0 := hW.cell 0; clear hW; simp at a0; go_simp; try with_reducible rfl) ?_
  refine wpP_take HS (by rfl) (by intro W hW; unfold SiBlk at hW; have a0 := hW.cell 0; clear hW; simp at a0; go_simp; try with_reducible rfl) ?_
  refine wpP_do fun K hK hP => ?_
  go_wp2_with fail
  refine (rr_left w0 w3 g q _ HF.out.r).mono ?_
  rintro e w4 ⟨rfl, kd, rfl⟩
  rw [hk0]
  replace HF := Lib.hid (HF.out.later (below_of_drewN _ w3 kd))
  replace HK := Lib.hid (HK.out.drewN kd)
  replace HS : Hid ((fun W : World => SiBlk W gs g) (w3.drewN kd)) := Lib.hid (HS.out.drewN kd)
  generalize w3.drewN kd = w4 at *
  go_wp2_with fail
  refine hK.out _ _ HS.out ?_
  clear hK hP K
  refine wpP_do fun K hK hP => ?_
  go_wp2_with fail
  refine (rr_take w0 w4 g q _ HF.out.r k0 hk1).mono ?_
  rintro e w5 ⟨v5, rfl, ho, hr, hk⟩
  replace HF : Hid (PkF w0 w5 g gp q _ _) := Lib.hid (HF.out.step hk hr)
  have HO := Lib.hid (own_mono ho HK.out.size)
  replace HK := Lib.hid (HK.out.trans (hk.mono (T := fun i => i = g ∨ i = gp) fun i _ e => .inl e) (fun _ _ e => e))
  replace HS : Hid (SiBlk w5 gs g) := Lib.hid (SiBlk.keep HS.out hk HGs.out)
  obtain ⟨A, c, hv, hc, hcm, -⟩ := own_shape_n HO.out
  subst hv
  clear ho hr hk
  go_wp2_with fail
  refine hK.out _ _ HS.out ?_
  clear hK hP K
  refine wpP_take HS (by rfl) (by intro W hW; clear hW; go_simp; try with_reducible rfl) ?_
  refine wpP_nil ?_
  go_simp
  have s0 : w5.cell? ⟨gs, 0, none⟩ = some (.pointer (some ⟨g, 0, none⟩)) := by have := HS.out.cell 0; simpa using this
  go_wp2_with fail
  refine (whole_s w0 w5 g q _ HF.out.r true).mono ?_
  rintro e w6 ⟨hor, hb6⟩
  by_cases hE : (r1.next k0).2.e = 0
  rotate_left
  · obtain rfl : e = thrown 22 := by
      rcases hor with ⟨h, _⟩ | ⟨_, h⟩
      · exact absurd h.2 hE
      · exact h
    have HB6 := Lib.hid (HF.out.fl2 HK.out rfl hb6)
    have hno := HC.out.2 hE
    have HNo := Lib.hid hno
    clear hor hb6 s0 hno hE
    go_wp2_with fail
    exact ⟨rfl, .inr ⟨fun h => HNo.out h.1, rfl, HB6.out⟩⟩
  obtain rfl : e = .returned (.tuple #[]) := by
    rcases hor with ⟨_, h⟩ | ⟨h, _⟩
    · exact h
    · exact absurd ⟨rfl, hE⟩ h
  obtain ⟨hp4, hv1, hby, hnx⟩ := HC.out.1 hE
  rw [hnx] at HF
  have hln : (r1.bytes k0).length = xs.length - (pos + 4) := by rw [hby, List.length_drop]
  rw [hby, List.length_drop] at HO
  rw [hln] at hc
  rw [hln]
  have HCt : Hid (Cut w w5 A (xs.length - (pos + 4)) c (xs.drop (pos + 4))) := Lib.hid (Cut.of_own HO.out (HF.out.r.oct.drop _))
  have HP4 := Lib.hid hp4
  obtain ⟨N, hNn⟩ : ∃ N : Nat, x1 = N := ⟨x1.toNat, by omega⟩
  have HV : Hid ((be ((xs.drop pos).take 4)).toNat = N) := Lib.hid (by rw [← hv1, hNn]; rfl)
  subst hNn
  have hN4 : N ≤ 4294967295 := by omega
  obtain ⟨n0, hn0⟩ : ∃ n0, xs.length - (pos + 4) = n0 := ⟨_, rfl⟩
  rw [hn0] at HCt hc ⊢
  have hn0x : n0 ≤ xs.length := by omega
  replace HF := Lib.hid (HF.out.later hb6)
  replace HK := Lib.hid (HK.out.trans (Kept.of_new hb6 (fun i => i = g ∨ i = gp)) (fun _ _ e => e))
  replace HS : Hid (SiBlk w6 gs g) := Lib.hid (Blk.later HS.out hb6)
  replace HCt := Lib.hid (HCt.out.later hb6)
  clear hor hb6 s0 hE HC hv1 hby hnx hln HO hx1 hk0 hk1 hn0
  go_wp2_with fail
  go_loopw [4, 5] (UpI w0 w g gp gs q xs pos t r a) (fun nv _ _ => (intOf nv).toNat)
  case atStart => exact ⟨N, A, n0, c, _, none, 0, 0, [], rfl, rfl, by omega, by omega, by omega, hN4, HF, Lib.hid ⟨own_nil _ _ _ _, fun s hs => by simp at hs⟩, Lib.hid rfl, HK, HS, HCt, Lib.hid (by rw [HV.out]; cases upS N (xs.drop (pos + 4)) <;> rfl)⟩
  case round =>
    obtain ⟨k, A, n, c, ys, SAA, i, sc, L, rfl, rfl, hisc, hscm, h20, hk4, hF, hY, hLl, hK, hS, hCt, hU⟩ := hrel
    clear HF HK HS HCt
    by_cases hk : 0 < k
    · obtain ⟨k', rfl⟩ : ∃ k', k = k' + 1 := ⟨k - 1, by omega⟩
      have d : decide ((0 : Int) < ((k' + 1 : Nat) : Int)) = true := decide_eq_true (by omega)
      by_cases he : rdE ys = 0
      rotate_left
      · have hbad : Hid (upS (be ((xs.drop pos).take 4)).toNat (xs.drop (pos + 4)) = none) := Lib.hid (by rw [hU.out]; unfold upS; rw [if_neg he]; rfl)
        have dE : (rdE ys == 0) = false := by simpa using he
        go_wp2_with fail
        refine (read_no A n c ys wr hCt.out.reads hCt.out.oct hCt.out.c.1 hCt.out.c.2 (by omega) he).mono ?_
        rintro e w7 ⟨rfl, hb7⟩
        have HF7 := Lib.hid (hF.out.later hb7)
        have HS7 : Hid (SiBlk w7 gs g) := Lib.hid (Blk.later hS.out hb7)
        have HK7 := Lib.hid (hK.out.trans (Kept.of_new hb7 (fun i => i = g ∨ i = gp)) (fun _ _ e => e))
        clear hb7 hF hS hY hK hCt he
        generalize rdE ys = E at *
        have hb8 : Below w7.heap.size w7 (w7.alloc (.cells #[.int .u16 0, .int .u8 0, .int .u8 0, .int .u32 0, .int .u32 0, .int .i32 0, .int .u16 0, .int .u16 0, .slice none 0 0] 76)) := (Below.refl _ _).alloc (Nat.le_refl _) _
        have HF8 := Lib.hid (HF7.out.later hb8)
        have HS8 : Hid (SiBlk (w7.alloc (.cells #[.int .u16 0, .int .u8 0, .int .u8 0, .int .u32 0, .int .u32 0, .int .i32 0, .int .u16 0, .int .u16 0, .slice none 0 0] 76)) gs g) := Lib.hid (Blk.later HS7.out hb8)
        have s8 : (w7.alloc (.cells #[.int .u16 0, .int .u8 0, .int .u8 0, .int .u32 0, .int .u32 0, .int .i32 0, .int .u16 0, .int .u16 0, .slice none 0 0] 76)).cell? ⟨gs, 0, none⟩ = some (.pointer (some ⟨g, 0, none⟩)) := by have := HS8.out.cell 0; simpa using this
        have HK8 := Lib.hid (HK7.out.trans (Kept.of_new hb8 (fun i => i = g ∨ i = gp)) (fun _ _ e => e))
        clear hb8
        unfold zeroSt
        go_wp2_with fail
        refine (whole_s w0 _ g q _ HF8.out.r false).mono ?_
        rintro e w9 ⟨hor, hb9⟩
        obtain rfl : e = thrown 22 := by
          rcases hor with ⟨h, _⟩ | ⟨_, h⟩
          · exact absurd h.1 (by decide)
          · exact h
        have HB9 := Lib.hid (HF8.out.fl2 HK8.out rfl hb9)
        clear hor hb9 s8
        go_wp2_with fail
        exact ⟨rfl, .inr ⟨fun h => (by obtain ⟨_, L, h⟩ := h; rw [hbad.out] at h; cases h), rfl, HB9.out⟩⟩
      · have hU2 : Hid (upS (be ((xs.drop pos).take 4)).toNat (xs.drop (pos + 4)) = (upS k' (ys.drop (hdAt ys 0).len.toNat)).map fun R => (L.map SE.hb ++ [(hdAt ys 0, (ys.take (hdAt ys 0).len.toNat).drop 20)]) ++ R) := Lib.hid (by
          rw [hU.out]
          show Option.map _ (if rdE ys = 0 then _ else _) = _
          rw [if_pos he, Option.map_map]
          congr 1
          funext R
          simp)
        obtain ⟨hl20, hm20, hml⟩ := rdE_yes he
        obtain ⟨m, hm⟩ : ∃ m : Nat, (hdAt ys 0).len = m := ⟨(hdAt ys 0).len.toNat, by omega⟩
        have hm16 : m ≤ 65535 := by have := (hdAt_ok hCt.out.oct 0).len; omega
        have hmn : m ≤ n := by have := hCt.out.len; omega
        have hmc : m ≤ c := by have := hCt.out.c.1; omega
        have hmI : (m : Int) ≤ (n : Int) := by omega
        have hm2 : 20 ≤ m := by omega
        have HM := Lib.hid hm
        have hU3 := hU2.out
        rw [hm, Int.toNat_natCast] at hU3
        replace hU2 := Lib.hid hU3
        have hcr := read_yes A n c ys wr hCt.out.reads hCt.out.oct hCt.out.c.1 hCt.out.c.2 (by omega) he
        rw [hm] at hcr
        have HCr := Lib.hid hcr
        clear hU hU3 hl20 hm20 hml he hm hcr hk
        go_wp2_with fail
        refine HCr.out.mono ?_
        clear HCr
        rintro e w7 ⟨⟨⟨ha, hop, hty, hid, hadv, hseq, hsum, hlen⟩, sA, sn, sc2, sB⟩, rfl, hrd, hb7⟩
        have HOk := Lib.hid (hrd.ok.mono hK.out.size)
        have HHb : Hid ((⟨⟨ha, hop, hty, hid, hadv, hseq, hsum, hlen⟩, sA, sn, sc2, sB⟩ : SE).hb = (hdAt ys 0, (ys.take m).drop 20)) := Lib.hid (by unfold SE.hb; rw [hrd.h, hrd.B, HM.out, Int.toNat_natCast])
        have HF7 := Lib.hid (hF.out.later hb7)
        have HS7 : Hid (SiBlk w7 gs g) := Lib.hid (Blk.later hS.out hb7)
        have HY7 := Lib.hid (hY.out.later hb7)
        have HK7 := Lib.hid (hK.out.trans (Kept.of_new hb7 (fun i => i = g ∨ i = gp)) (fun _ _ e => e))
        have HC7 := Lib.hid (hCt.out.later hb7)
        clear hrd hb7 hF hS hY hK hCt
        have hb8 : Below w7.heap.size w7 (w7.alloc (.cells #[.int .u16 ha, .int .u8 hop, .int .u8 hty, .int .u32 hid, .int .u32 hadv, .int .i32 hseq, .int .u16 hsum, .int .u16 hlen, .slice sA sn sc2] 76)) := (Below.refl _ _).alloc (Nat.le_refl _) _
        have HF8 := Lib.hid (HF7.out.later hb8)
        have HS8 : Hid (SiBlk (w7.alloc (.cells #[.int .u16 ha, .int .u8 hop, .int .u8 hty, .int .u32 hid, .int .u32 hadv, .int .i32 hseq, .int .u16 hsum, .int .u16 hlen, .slice sA sn sc2] 76)) gs g) := Lib.hid (Blk.later HS7.out hb8)
        have HY8 := Lib.hid (HY7.out.later hb8)
        have HK8 := Lib.hid (HK7.out.trans (Kept.of_new hb8 (fun i => i = g ∨ i = gp)) (fun _ _ e => e))
        have HC8 := Lib.hid (HC7.out.later hb8)
        have HOk8 := Lib.hid (HOk.out.later hb8)
        have HX8 : Hid (Blk (w7.alloc (.cells #[.int .u16 ha, .int .u8 hop, .int .u8 hty, .int .u32 hid, .int .u32 hadv, .int .i32 hseq, .int .u16 hsum, .int .u16 hlen, .slice sA sn sc2] 76)) w7.heap.size 76 #[.int .u16 ha, .int .u8 hop, .int .u8 hty, .int .u32 hid, .int .u32 hadv, .int .i32 hseq, .int .u16 hsum, .int .u16 hlen, .slice sA sn sc2]) := Lib.hid (Blk.new _ _ _)
        have s8 : (w7.alloc (.cells #[.int .u16 ha, .int .u8 hop, .int .u8 hty, .int .u32 hid, .int .u32 hadv, .int .i32 hseq, .int .u16 hsum, .int .u16 hlen, .slice sA sn sc2] 76)).cell? ⟨gs, 0, none⟩ = some (.pointer (some ⟨g, 0, none⟩)) := by have := HS8.out.cell 0; simpa using this
        have HGh : Hid (∀ j, (Value.slice SAA i sc).ownBlock = some j → j ≠ w7.heap.size) := Lib.hid (fun j hj => by have := (own_ge HY7.out.row hj).2; omega)
        clear hb8 HF7 HS7 HY7 HK7 HC7 HOk
        go_wp2_with fail
        clear s8
        generalize w7.heap.size = gh at *
        generalize w7.alloc (.cells #[.int .u16 ha, .int .u8 hop, .int .u8 hty, .int .u32 hid, .int .u32 hadv, .int .i32 hseq, .int .u16 hsum, .int .u16 hlen, .slice sA sn sc2] 76) = w8 at *
        refine (whole_s w0 w8 g q _ HF8.out.r true).mono ?_
        rintro e w9 ⟨hor, hb9⟩
        obtain rfl : e = .returned (.tuple #[]) := by
          rcases hor with ⟨_, h⟩ | ⟨h, _⟩
          · exact h
          · exact absurd ⟨rfl, rfl⟩ h
        replace HF := Lib.hid ((HF8.out.later hb9).later (Below.refl _ _).drew)
        have HS9 : Hid (SiBlk w9.drew gs g) := Lib.hid ((Blk.later HS8.out hb9).drewN 1)
        replace HY := Lib.hid ((HY8.out.later hb9).later (Below.refl _ _).drew)
        replace HK : Hid (Kept (fun i => i = g ∨ i = gp) w w9.drew) := Lib.hid ((HK8.out.trans (Kept.of_new hb9 (fun i => i = g ∨ i = gp)) (fun _ _ e => e)).drewN 1)
        replace HCt := Lib.hid ((HC8.out.later hb9).later (Below.refl _ _).drew)
        replace HOk := Lib.hid ((HOk8.out.later hb9).later (Below.refl _ _).drew)
        have HX9 : Hid (Blk w9.drew gh 76 #[.int .u16 ha, .int .u8 hop, .int .u8 hty, .int .u32 hid, .int .u32 hadv, .int .i32 hseq, .int .u16 hsum, .int .u16 hlen, .slice sA sn sc2]) := Lib.hid ((HX8.out.later hb9).drewN 1)
        clear hor hb9 HF8 HS8 HY8 HK8 HC8 HOk8 HX8
        go_wp2_with fail
        have HSS : Hid ((fun W : World => SiBlk W gs g ∧ W.cell? ⟨gp, 17, none⟩ = some (.slice SAA i sc) ∧ Blk W gh 76 #[.int .u16 ha, .int .u8 hop, .int .u8 hty, .int .u32 hid, .int .u32 hadv, .int .i32 hseq, .int .u16 hsum, .int .u16 hlen, .slice sA sn sc2]) w9.drew) := Lib.hid ⟨HS9.out, HF.out.k.cell 17, HX9.out⟩
        refine wp_region_g (fun W : World => SiBlk W gs g ∧ W.cell? ⟨gp, 17, none⟩ = some (.slice SAA i sc) ∧ Blk W gh 76 #[.int .u16 ha, .int .u8 hop, .int .u8 hty, .int .u32 hid, .int .u32 hadv, .int .i32 hseq, .int .u16 hsum, .int .u16 hlen, .slice sA sn sc2]) [.take 0, .take 1, .take 2, .take 3, .take 4, .take 5, .one 6, .one 7, .take 8, .take 9, .one 10] (by kernel_rfl) (fun _ d _ _ _ h => by cases d <;> exact h) ?_
        simp only [List.map_cons, List.map_nil, RStep.node, nthOp_zero, nthOp_succ]
        clear HS9 HX9
        generalize w9.drew = v0 at *
        refine wpG_take HSS (by rfl) (by intro W hW; clear hW; go_simp; try with_reducible rfl) ?_
        refine wpG_take HSS (by rfl) (by intro W hW; clear hW; go_simp; try with_reducible rfl) ?_
        refine wpG_take HSS (by rfl) (by intro W hW; clear hW; go_simp; try with_reducible rfl) ?_
        go_simp
        refine wpG_take HSS (by rfl) (by intro W hW; clear hW; go_simp; try with_reducible rfl) ?_
        refine wpG_take HSS (by rfl) (by intro W hW; obtain ⟨hs, c17, hx⟩ := hW; clear hs hx; go_simp; try with_reducible rfl) ?_
        refine wpG_take HSS (by rfl) (fun W hW => exec_load_row rfl rfl hW.2.2 Try.underlying76 rfl info_state) ?_
        go_simp
        refine wpG_do fun K hK => ?_
        go_wp2_with fail
        have hb5 : Below v0.heap.size v0 (v0.alloc (.cells #[.int .u16 ha, .int .u8 hop, .int .u8 hty, .int .u32 hid, .int .u32 hadv, .int .i32 hseq, .int .u16 hsum, .int .u16 hlen, .slice sA sn sc2] 76)) := (Below.refl _ _).alloc (Nat.le_refl _) _
        have HBl := Blk.new v0 76 #[.int .u16 ha, .int .u8 hop, .int .u8 hty, .int .u32 hid, .int .u32 hadv, .int .i32 hseq, .int .u16 hsum, .int .u16 hlen, .slice sA sn sc2]
        have HRd : Hid (Reads (v0.alloc (.cells #[.int .u16 ha, .int .u8 hop, .int .u8 hty, .int .u32 hid, .int .u32 hadv, .int .i32 hseq, .int .u16 hsum, .int .u16 hlen, .slice sA sn sc2] 76)) (v0.alloc (.cells #[.int .u16 ha, .int .u8 hop, .int .u8 hty, .int .u32 hid, .int .u32 hadv, .int .i32 hseq, .int .u16 hsum, .int .u16 hlen, .slice sA sn sc2] 76)).heap.size 9 (some ⟨v0.heap.size, 0, none⟩) 1 (SE.cells ⟨⟨ha, hop, hty, hid, hadv, hseq, hsum, hlen⟩, sA, sn, sc2, sB⟩)) := Lib.hid ⟨rfl, fun _ => ⟨_, rfl, HBl.lt, fun j u hu => by rw [add_none, Nat.zero_add, HBl.cell]; simpa [SE.cells] using hu⟩⟩
        replace HF := Lib.hid (HF.out.later hb5)
        replace HK := Lib.hid (HK.out.trans (Kept.of_new hb5 (fun i => i = g ∨ i = gp)) (fun _ _ e => e))
        replace HY := Lib.hid (HY.out.later hb5)
        replace HCt := Lib.hid (HCt.out.later hb5)
        replace HOk := Lib.hid (HOk.out.later hb5)
        replace HSS : Hid ((fun W : World => SiBlk W gs g ∧ W.cell? ⟨gp, 17, none⟩ = some (.slice SAA i sc) ∧ Blk W gh 76 #[.int .u16 ha, .int .u8 hop, .int .u8 hty, .int .u32 hid, .int .u32 hadv, .int .i32 hseq, .int .u16 hsum, .int .u16 hlen, .slice sA sn sc2]) (v0.alloc (.cells #[.int .u16 ha, .int .u8 hop, .int .u8 hty, .int .u32 hid, .int .u32 hadv, .int .i32 hseq, .int .u16 hsum, .int .u16 hlen, .slice sA sn sc2] 76))) := Lib.hid ⟨Blk.later HSS.out.1 hb5, HF.out.k.cell 17, Blk.later HSS.out.2.2 hb5⟩
        have hbase : w.heap.size ≤ (v0.alloc (.cells #[.int .u16 ha, .int .u8 hop, .int .u8 hty, .int .u32 hid, .int .u32 hadv, .int .i32 hseq, .int .u16 hsum, .int .u16 hlen, .slice sA sn sc2] 76)).heap.size := HK.out.size
        clear hb5 HBl
        refine hK.out _ _ HSS.out ?_
        clear hK K
        generalize v0.heap.size = gy at *
        generalize v0.alloc (.cells #[.int .u16 ha, .int .u8 hop, .int .u8 hty, .int .u32 hid, .int .u32 hadv, .int .i32 hseq, .int .u16 hsum, .int .u16 hlen, .slice sA sn sc2] 76) = v1 at *
        refine wpG_do fun K hK => ?_
        refine wpList_app el_state rfl (.tmp 38) (.tmp 40) rfl HY.out.row rfl HRd.out rfl (se_one _) (by simp only [maxLen]; omega) (by omega) hbase ?_
        intro v5 v2 ho9 hb9 hg9 hn9
        obtain ⟨A5, c5, hv5, hc5, hcm5, -⟩ := own_shape_n ho9
        subst hv5
        have k9 := Kept.of_grown hg9
        have hog : ∀ j, (Value.slice SAA i sc).ownBlock = some j → w.heap.size ≤ j := fun j hj => (own_ge HY.out.row hj).1
        have HF4 : Hid (PkF w0 v2 g gp q ⟨xs, xs.length, 0⟩ { p0 t r a with SA := SAA, sn := i, sc := sc }.C) := Lib.hid ⟨HF.out.r.kept k9 (fun e => by have h1 := hog g e; have h2 := HGl.out.1; omega) (fun hn ad e e' => by have h1 := hog _ e'; have h2 := HAq.out hn ad e; omega) (fun j e => by have h1 := hog j e; have h2 := HA.out.1; omega), HF.out.k.kept k9 (fun e => own_blk_ne HY.out.row HF.out.k (by decide) e), HF.out.ne, HF.out.base, HF.out.qa⟩
        have HK4 := Lib.hid (HK.out.trans (k9.mono (T := fun j => w.heap.size ≤ j) fun j _ e => hog j e) (fun j hj e => absurd hj (by omega)))
        have HX4 : Hid (SiBlk v2 gs g) := Lib.hid (Blk.kept HSS.out.1 k9 (fun e => own_blk_ne HY.out.row HSS.out.1 (by decide) e))
        have HC4 : Hid (Cut w v2 A n c ys) := Lib.hid (HCt.out.kept k9 (fun gb cur hb _ e => own_blk_ne HY.out.row hb (by decide) e))
        have HY4 := Lib.hid (HY.out.push HOk.out hg9 ho9)
        have HSS4 : Hid ((fun W : World => SiBlk W gs g ∧ W.cell? ⟨gp, 17, none⟩ = some (.slice SAA i sc) ∧ Blk W gh 76 #[.int .u16 ha, .int .u8 hop, .int .u8 hty, .int .u32 hid, .int .u32 hadv, .int .i32 hseq, .int .u16 hsum, .int .u16 hlen, .slice sA sn sc2]) v2) := Lib.hid ⟨HX4.out, HF4.out.k.cell 17, Blk.kept HSS.out.2.2 k9 (fun e => HGh.out _ e rfl)⟩
        clear ho9 hb9 hg9 hn9 k9 hog HF HK HY HSS HRd hbase HCt HOk
        refine hK.out _ _ HSS4.out ?_
        clear hK K
        refine wpG_take HSS4 (by rfl) (by intro W hW; clear hW; go_simp; try with_reducible rfl) ?_
        refine wpG_take HSS4 (by rfl) (by intro W hW; clear hW; go_simp; try with_reducible rfl) ?_
        go_simp
        refine wpG_last fun K hK => ?_
        have f17 := HF4.out.k.frozen 17
        have y17 := HF4.out.k.cell 17
        simp at y17
        go_wp2_with fail
        have HF5 := Lib.hid (HF4.out.put 17 (.slice A5 (i + 1) c5))
        have HK5 := Lib.hid (HK4.out.setCell (p := ⟨gp, 17, none⟩) (fun _ => .inr rfl) (.slice A5 (i + 1) c5))
        have HY5 := Lib.hid (HY4.out.put HF4.out.k 17 (.slice A5 (i + 1) c5))
        have HC5 := Lib.hid (HC4.out.put HF4.out.k 17 (.slice A5 (i + 1) c5))
        have HS5 : Hid (SiBlk (v2.setCell ⟨gp, 17, none⟩ (.slice A5 (i + 1) c5)) gs g) := Lib.hid (Blk.far (p := ⟨gp, 17, none⟩) HX4.out HGp.out (.slice A5 (i + 1) c5))
        clear f17 y17 HSS4
        refine hK.out _ _ ?_
        clear hK K HF4 HK4 HY4 HC4 HX4
        generalize v2.setCell ⟨gp, 17, none⟩ (.slice A5 (i + 1) c5) = v3 at *
        go_wp2
        all_goals try go_simp
        refine ⟨⟨k', _, n - m, c - m, ys.drop m, A5, i + 1, c5, L ++ [⟨⟨ha, hop, hty, hid, hadv, hseq, hsum, hlen⟩, sA, sn, sc2, sB⟩], rfl, rfl, hc5, hcm5, by omega, by omega, HF5, HY5, Lib.hid (by rw [List.length_append, hLl.out]; rfl), HK5, HS5, Lib.hid (HC5.out.sub hmn), Lib.hid (by rw [hU2.out, List.map_append, List.map_singleton, HHb.out])⟩, ?_⟩
        simp only [intOf]
        omega
    · obtain rfl : k = 0 := by omega
      have s0 : wr.cell? ⟨gs, 0, none⟩ = some (.pointer (some ⟨g, 0, none⟩)) := by have := hS.out.cell 0; simpa using this
      by_cases hn0 : n = 0
      · subst hn0
        have HU : Hid (upS (be ((xs.drop pos).take 4)).toNat (xs.drop (pos + 4)) = some (L.map SE.hb)) := Lib.hid (by
          rw [hU.out]
          unfold upS
          rw [if_pos hCt.out.len]
          simp)
        clear hU hk
        go_wp2_with fail
        refine (whole_s w0 wr g q _ hF.out.r true).mono ?_
        rintro e w6 ⟨hor, hb6⟩
        obtain rfl : e = .returned (.tuple #[]) := by
          rcases hor with ⟨_, h⟩ | ⟨h, _⟩
          · exact h
          · exact absurd ⟨rfl, rfl⟩ h
        have HF6 := Lib.hid (hF.out.later hb6)
        have HY6 := Lib.hid (hY.out.later hb6)
        have HK6 := Lib.hid (hK.out.trans (Kept.of_new hb6 (fun i => i = g ∨ i = gp)) (fun _ _ e => e))
        clear hor hb6 hF hY hK s0
        go_wp2_with fail
        go_end0
        exact .inl ⟨_, { p0 t r a with SA := SAA, sn := i, sc := sc, ss := L }, ⟨HP4.out, HU.out⟩, rfl, ⟨HF6.out, HK6.out, own_nil _ _ _ _, own_nil _ _ _ _, own_nil _ _ _ _, own_nil _ _ _ _⟩, HY6.out, hLl.out, rfl, rfl⟩
      · have HU : Hid (upS (be ((xs.drop pos).take 4)).toNat (xs.drop (pos + 4)) = none) := Lib.hid (by
          rw [hU.out]
          unfold upS
          rw [if_neg (by rw [hCt.out.len]; exact hn0)]
          rfl)
        have dz : ((n : Int) == 0) = false := by simpa using hn0
        clear hU hk
        go_wp2_with fail
        refine (whole_s w0 wr g q _ hF.out.r false).mono ?_
        rintro e w6 ⟨hor, hb6⟩
        obtain rfl : e = thrown 22 := by
          rcases hor with ⟨h, _⟩ | ⟨_, h⟩
          · exact absurd h.1 (by decide)
          · exact h
        have HB6 := Lib.hid (hF.out.fl2 hK.out rfl hb6)
        clear hor hb6 s0
        go_wp2_with fail
        exact ⟨rfl, .inr ⟨fun h => (by obtain ⟨_, L, h⟩ := h; rw [HU.out] at h; cases h), rfl, HB6.out⟩⟩
end Go.Proofs.Ytbkejlalbjomkaa
