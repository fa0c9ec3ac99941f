/-
  The walk of AuthSecrets. Printed by gen_as3.py.
-/
import Derived.Test.YtbkejlalbjomkaaASA
import Derived.Test.YtbkejlalbjomkaaAQ4
import Derived.Test.YtbkejlalbjomkaaPk29
namespace Go.Proofs.Ytbkejlalbjomkaa
set_option linter.unusedVariables false
open Go.RowKit

def ScOk (w w' : World) (e : Ending) : Prop := e = .returned (.bool true) ∧ Below w.heap.size w w'
/-- The boxes of a law's packet and two keys. -/
structure ScF (w W : World) (gp g1 g2 : Nat) (P K1 K2 : Array Value) : Prop where
  p : Blk W gp 33 P
  a : Blk W g1 59 K1
  b : Blk W g2 59 K2
  l : Below w.heap.size w W
  o : w.heap.size ≤ g1 ∧ w.heap.size ≤ g2 ∧ gp ≠ g1 ∧ gp ≠ g2 ∧ g1 ≠ g2
theorem ScF.later {w W W' : World} {gp g1 g2 : Nat} {P K1 K2 : Array Value} (h : ScF w W gp g1 g2 P K1 K2) (hb : Below W.heap.size W W') : ScF w W' gp g1 g2 P K1 K2 := ⟨h.p.later hb, h.a.later hb, h.b.later hb, below_then h.l hb, h.o⟩
theorem ScF.far1 {w W : World} {gp g1 g2 : Nat} {P K2 : Array Value} {a1 a2 a3 a4 a5 a6 a7 : Value} (h : ScF w W gp g1 g2 P #[a1, a2, a3, a4, a5, a6, a7] K2) (u : Value) : ScF w (W.setCell ⟨g1, 1, none⟩ u) gp g1 g2 P #[a1, u, a3, a4, a5, a6, a7] K2 :=
  ⟨h.p.far (p := ⟨g1, 1, none⟩) h.o.2.2.1 u, h.a.set_ 1 u, h.b.far (p := ⟨g1, 1, none⟩) (fun e => h.o.2.2.2.2 e.symm) u, h.l.setCell (p := ⟨g1, 1, none⟩) h.o.1 u, h.o⟩
theorem ScF.far2 {w W : World} {gp g1 g2 : Nat} {P K1 : Array Value} {a1 a2 a3 a4 a5 a6 a7 : Value} (h : ScF w W gp g1 g2 P K1 #[a1, a2, a3, a4, a5, a6, a7]) (u : Value) : ScF w (W.setCell ⟨g2, 1, none⟩ u) gp g1 g2 P K1 #[a1, u, a3, a4, a5, a6, a7] :=
  ⟨h.p.far (p := ⟨g2, 1, none⟩) h.o.2.2.2.1 u, h.a.far (p := ⟨g2, 1, none⟩) h.o.2.2.2.2 u, h.b.set_ 1 u, h.l.setCell (p := ⟨g2, 1, none⟩) h.o.2.1 u, h.o⟩
theorem AK.size (k : AK) : k.cells.toArray.size = 7 := rfl
theorem keys_two {w : World} {k1 k2 : AK} (h1 : KOk w k1) (h2 : KOk w k2) : Keys (w.alloc (.cells (k1.cells ++ k2.cells).toArray 59)) (some ⟨w.heap.size, 0, none⟩) 2 [k1, k2] := by
  have hb := (Below.refl w.heap.size w).alloc (Nat.le_refl _) (.cells (k1.cells ++ k2.cells).toArray 59)
  refine ⟨⟨rfl, fun _ => ⟨_, rfl, by rw [World.size_alloc]; exact Nat.lt_succ_self _, fun j u hu => ?_⟩⟩, rfl, fun k hk => ?_⟩
  · rw [add_none, Nat.zero_add, (Blk.new w 59 (k1.cells ++ k2.cells).toArray).cell j, List.getElem?_toArray]
    simpa using hu
  · rcases List.mem_cons.1 hk with rfl | hk
    · exact h1.later hb
    · rw [List.mem_singleton] at hk; subst hk; exact h2.later hb
theorem keys_one {w : World} {k : AK} (h : KOk w k) : Keys (w.alloc (.cells k.cells.toArray 59)) (some ⟨w.heap.size, 0, none⟩) 1 [k] := by
  have hb := (Below.refl w.heap.size w).alloc (Nat.le_refl _) (.cells k.cells.toArray 59)
  refine ⟨by simpa using key_row w k, rfl, fun q hq => ?_⟩
  rw [List.mem_singleton] at hq
  subst hq
  exact h.later hb
theorem sc_new (w : World) (P : Array Value) (k1 k2 : AK) : ScF w (((w.alloc (.cells P 33)).alloc (.cells k1.cells.toArray 59)).alloc (.cells k2.cells.toArray 59)) w.heap.size (w.heap.size + 1) (w.heap.size + 1 + 1) P k1.cells.toArray k2.cells.toArray := by
  obtain ⟨n0, n1, n2, nb⟩ := three_blks w (.cells P 33) (.cells k1.cells.toArray 59) (.cells k2.cells.toArray 59)
  exact ⟨n0, n1, n2, nb, by omega⟩
theorem sc_new4 (w : World) (P : Array Value) (k1 k2 : AK) (h1 : KOk w k1) (h2 : KOk w k2) : ScF w ((((w.alloc (.cells P 33)).alloc (.cells k1.cells.toArray 59)).alloc (.cells k2.cells.toArray 59)).alloc (.cells (k1.cells ++ k2.cells).toArray 59)) w.heap.size (w.heap.size + 1) (w.heap.size + 1 + 1) P k1.cells.toArray k2.cells.toArray ∧
    Keys ((((w.alloc (.cells P 33)).alloc (.cells k1.cells.toArray 59)).alloc (.cells k2.cells.toArray 59)).alloc (.cells (k1.cells ++ k2.cells).toArray 59)) (some ⟨w.heap.size + 1 + 1 + 1, 0, none⟩) 2 [k1, k2] := by
  have h := sc_new w P k1 k2
  have hs : (((w.alloc (.cells P 33)).alloc (.cells k1.cells.toArray 59)).alloc (.cells k2.cells.toArray 59)).heap.size = w.heap.size + 1 + 1 + 1 := by simp only [World.size_alloc]
  rw [← hs]
  exact ⟨h.later ((Below.refl _ _).alloc (Nat.le_refl _) _), keys_two (h1.later h.l) (h2.later h.l)⟩
/-- The law's own copy of a chain of one key. -/
def GvOne (w w' : World) (k : AK) (e : Ending) : Prop := ∃ (ad : Addr) (c' : Nat) (k' : AK), e = .returned (.slice (some ad) 1 c') ∧ Keys w' (some ad) 1 [k'] ∧ 1 ≤ c' ∧ c' ≤ 9223372036854775807 ∧ k'.bs = k.bs ∧ [k'].map AK.core = [k].map AK.core ∧ Below w.heap.size w w'
theorem given_one (A : Option Addr) (c : Nat) (k : AK) (w : World) (hL : Keys w A 1 [k]) (hn : k.n ≤ 131072) :
    Calls Try.prog 24 #[.slice A 1 c] w fun e w' => GvOne w w' k e := by
  have hs : ∀ q ∈ [k], q.n ≤ 131072 := fun q hq => by rw [List.mem_singleton] at hq; subst hq; exact hn
  refine (given_any A 1 c [k] w hL (by decide) hs).mono ?_
  rintro e w' ⟨v, L', rfl, hl, ho, hw, hb⟩
  obtain ⟨A', c', rfl, hk, hc, hm⟩ := keys_of_given (hL.later hb) hs hl ho hw
  obtain ⟨ad, rfl⟩ : ∃ ad, A' = some ad := by obtain ⟨ad, e, _⟩ := hk.row.2 (by omega); exact ⟨ad, e⟩
  match L', hl with
  | [k'], _ => exact ⟨ad, c', k', rfl, hk, hc, hm, (hw 0 k k' rfl rfl).bs, core_of hw rfl, hb⟩
def cE (k : AK) : Int := if mayB k then 0 else 26
theorem cE_may {k : AK} (h : cE k = 0) : mayB k = true := by
  unfold cE at h
  cases hm : mayB k with
  | true => rfl
  | false => rw [hm] at h; cases h
theorem ck_one (ad : Addr) (c : Nat) (k k' : AK) (w : World) (hL : Keys w (some ad) 1 [k']) (hc : 1 ≤ c) (h : [k'].map AK.core = [k].map AK.core) :
    Calls Try.prog 25 #[.slice (some ad) 1 c] w fun e w' => e = .returned (.tuple #[.int .i64 (cE k), .int .i64 0]) ∧ Below w.heap.size w w' := by
  refine (check_any (some ad) 1 c [k'] w hL hc (by decide)).mono ?_
  rintro e w' ⟨rfl, hb⟩
  rw [core_check h, check_one]
  unfold cE
  refine ⟨?_, hb⟩
  cases mayB k <;> rfl
theorem core_tk {k k' : AK} (h : [k'].map AK.core = [k].map AK.core) (now : Int) : tkB now k' = tkB now k := by
  simp only [List.map_cons, List.map_nil, List.cons.injEq, and_true] at h
  unfold AK.core at h
  simp only [Prod.mk.injEq] at h
  unfold tkB
  rw [h.2.2.2.2.2.1, h.2.2.2.2.2.2]
theorem op_tf {ys d bs : List Int} {k k' : AK} (hy : (ys.drop 16).take 8 = d) (h : [k'].map AK.core = [k].map AK.core) (hb : k'.bs = bs) (ht : k.tf ≤ k.tu) (n : Nat) : ∃ N3 e3, opOut ys [k'] k.tf n = .tuple #[.int .u32 0, .int .i64 N3, .int .i64 e3] ∧ (e3 = 0 ↔ d = pw bs) := by
  rw [op_one k' _ n hy, core_tk h, hb]
  have e : tkB k.tf k = true := by unfold tkB; simp; exact ht
  rw [e, Bool.true_and]
  by_cases hp : pw bs = d
  · rw [if_pos (by simpa using hp)]
    exact ⟨_, _, rfl, by simp [hp]⟩
  · rw [if_neg (by simpa using hp)]
    exact ⟨_, _, rfl, by simp; exact fun e => hp e.symm⟩
theorem op_tf1 {ys d : List Int} {k k' : AK} (hy : (ys.drop 16).take 8 = d) (h : [k'].map AK.core = [k].map AK.core) (n : Nat) : opOut ys [k'] (k.tf - 1) n = .tuple #[.int .u32 0, .int .i64 0, .int .i64 26] := by
  rw [op_one k' _ n hy, core_tk h]
  have e : tkB (k.tf - 1) k = false := by unfold tkB; simp; intro; omega
  rw [e, Bool.false_and]
  rfl
/-- Two rows of bytes that grow beside one another. -/
structure Lp2 (w9 : World) (vA vB : Value) (mA mB : Nat) (xA xB : List Int) (wr : World) : Prop where
  a : wr.ownsRow w9.heap.size 5 1 vA mA (u8s xA)
  b : wr.ownsRow w9.heap.size 5 1 vB mB (u8s xB)
  ne : ∀ i, vA.ownBlock = some i → vB.ownBlock ≠ some i
  l : Below w9.heap.size w9 wr
theorem Lp2.symm {w9 wr : World} {vA vB : Value} {mA mB : Nat} {xA xB : List Int} (h : Lp2 w9 vA vB mA mB xA xB wr) : Lp2 w9 vB vA mB mA xB xA wr := ⟨h.b, h.a, fun i h1 h2 => h.ne i h2 h1, h.l⟩
theorem Lp2.grow {w9 wr w' : World} {vA vB v' : Value} {mA mB m' : Nat} {xA xB x' : List Int} (h : Lp2 w9 vA vB mA mB xA xB wr) (ho : w'.ownsRow w9.heap.size 5 1 v' m' (u8s xA ++ u8s x')) (hg : wr.grownBy w' vA.ownBlock) (hb : Below w9.heap.size wr w') (hv : v'.ownBlock = vA.ownBlock ∨ v'.ownBlock = some wr.heap.size) : Lp2 w9 v' vB m' mB (xA ++ x') xB w' := by
  rw [← u8s_append] at ho
  refine ⟨ho, own_kept h.b (Kept.of_grown hg) (fun i hi hj => h.ne i hj hi), fun i h1 h2 => ?_, h.l.trans hb⟩
  rcases hv with e | e
  · exact h.ne i (e ▸ h1) h2
  · have := (own_ge h.b h2).2
    rw [e] at h1
    injection h1 with h1
    omega
theorem Lp2.later {w9 wr w' : World} {vA vB : Value} {mA mB : Nat} {xA xB : List Int} (h : Lp2 w9 vA vB mA mB xA xB wr) (hb : Below wr.heap.size wr w') : Lp2 w9 vA vB mA mB xA xB w' :=
  ⟨own_kept h.a (Kept.of_new hb (fun _ => False)) (fun _ _ h => h), own_kept h.b (Kept.of_new hb (fun _ => False)) (fun _ _ h => h), h.ne, below_then h.l hb⟩
def LpR (w9 : World) (n : Nat) (bs xB : List Int) (vB : Value) (mB : Nat) (v : Value) (wr : World) : Prop := ∃ j : Nat, n + j ≤ 8 ∧ Hid (Lp2 w9 v vB (n + j) mB (bs ++ List.replicate j 0) xB wr)
set_option maxRecDepth 100000 in
set_option maxHeartbeats 16000000 in
theorem secrets_walk (p : PA) (k1 k2 : AK) (w : World) (hp : p.rd w) (hf : p.fit) (h1 : KOk w k1) (h2 : KOk w k2) (s1 : k1.n ≤ 140737488351232) (s2 : k2.n ≤ 140737488351232) (ht2 : k2.tf ≤ 9223372036854775807) :
    Calls Try.prog 6 #[p.v, k1.v, k2.v] w fun e w' => ScOk w w' e := by
  obtain ⟨id1, kd1, A1, n1, c1, sf1, su1, tf1, tu1, bs1⟩ := k1
  obtain ⟨id2, kd2, A2, n2, c2, sf2, su2, tf2, tu2, bs2⟩ := k2
  simp only at ht2
  show Calls Try.prog 6 #[.agg #[.int .u8 p.typ, .int .u32 p.router, .int .u32 p.area, .int .u32 p.mask, .int .u16 p.ivl, .int .u8 p.hopts, .int .u8 p.pri, .int .u32 p.dead, .int .u32 p.dr, .int .u32 p.bdr, .slice p.NA p.nn p.nc, .int .u16 p.mtu, .int .u8 p.dopts, .int .u8 p.flags, .int .u32 p.seq, .slice p.DA p.dn p.dc, .slice p.KA p.kn p.kc, .slice p.SA p.sn p.sc, .slice p.HA p.hn p.hc], .agg #[.int .u8 id1, .int .u16 kd1, .slice A1 n1 c1, .int .i64 sf1, .int .i64 su1, .int .i64 tf1, .int .i64 tu1], .agg #[.int .u8 id2, .int .u16 kd2, .slice A2 n2 c2, .int .i64 sf2, .int .i64 su2, .int .i64 tf2, .int .i64 tu2]] w _
  have HG0 : Hid (ScF w (((w.alloc (.cells #[.int .u8 p.typ, .int .u32 p.router, .int .u32 p.area, .int .u32 p.mask, .int .u16 p.ivl, .int .u8 p.hopts, .int .u8 p.pri, .int .u32 p.dead, .int .u32 p.dr, .int .u32 p.bdr, .slice p.NA p.nn p.nc, .int .u16 p.mtu, .int .u8 p.dopts, .int .u8 p.flags, .int .u32 p.seq, .slice p.DA p.dn p.dc, .slice p.KA p.kn p.kc, .slice p.SA p.sn p.sc, .slice p.HA p.hn p.hc] 33)).alloc (.cells #[.int .u8 id1, .int .u16 kd1, .slice A1 n1 c1, .int .i64 sf1, .int .i64 su1, .int .i64 tf1, .int .i64 tu1] 59)).alloc (.cells #[.int .u8 id2, .int .u16 kd2, .slice A2 n2 c2, .int .i64 sf2, .int .i64 su2, .int .i64 tf2, .int .i64 tu2] 59)) w.heap.size (w.heap.size + 1) (w.heap.size + 1 + 1) p.C #[.int .u8 id1, .int .u16 kd1, .slice A1 n1 c1, .int .i64 sf1, .int .i64 su1, .int .i64 tf1, .int .i64 tu1] #[.int .u8 id2, .int .u16 kd2, .slice A2 n2 c2, .int .i64 sf2, .int .i64 su2, .int .i64 tf2, .int .i64 tu2]) := Lib.hid (sc_new w p.C (⟨id1, kd1, A1, n1, c1, sf1, su1, tf1, tu1, bs1⟩ : AK) (⟨id2, kd2, A2, n2, c2, sf2, su2, tf2, tu2, bs2⟩ : AK))
  have HG4 : Hid (ScF w ((((w.alloc (.cells #[.int .u8 p.typ, .int .u32 p.router, .int .u32 p.area, .int .u32 p.mask, .int .u16 p.ivl, .int .u8 p.hopts, .int .u8 p.pri, .int .u32 p.dead, .int .u32 p.dr, .int .u32 p.bdr, .slice p.NA p.nn p.nc, .int .u16 p.mtu, .int .u8 p.dopts, .int .u8 p.flags, .int .u32 p.seq, .slice p.DA p.dn p.dc, .slice p.KA p.kn p.kc, .slice p.SA p.sn p.sc, .slice p.HA p.hn p.hc] 33)).alloc (.cells #[.int .u8 id1, .int .u16 kd1, .slice A1 n1 c1, .int .i64 sf1, .int .i64 su1, .int .i64 tf1, .int .i64 tu1] 59)).alloc (.cells #[.int .u8 id2, .int .u16 kd2, .slice A2 n2 c2, .int .i64 sf2, .int .i64 su2, .int .i64 tf2, .int .i64 tu2] 59)).alloc (.cells #[.int .u8 id1, .int .u16 kd1, .slice A1 n1 c1, .int .i64 sf1, .int .i64 su1, .int .i64 tf1, .int .i64 tu1, .int .u8 id2, .int .u16 kd2, .slice A2 n2 c2, .int .i64 sf2, .int .i64 su2, .int .i64 tf2, .int .i64 tu2] 59)) w.heap.size (w.heap.size + 1) (w.heap.size + 1 + 1) p.C #[.int .u8 id1, .int .u16 kd1, .slice A1 n1 c1, .int .i64 sf1, .int .i64 su1, .int .i64 tf1, .int .i64 tu1] #[.int .u8 id2, .int .u16 kd2, .slice A2 n2 c2, .int .i64 sf2, .int .i64 su2, .int .i64 tf2, .int .i64 tu2] ∧ Keys ((((w.alloc (.cells #[.int .u8 p.typ, .int .u32 p.router, .int .u32 p.area, .int .u32 p.mask, .int .u16 p.ivl, .int .u8 p.hopts, .int .u8 p.pri, .int .u32 p.dead, .int .u32 p.dr, .int .u32 p.bdr, .slice p.NA p.nn p.nc, .int .u16 p.mtu, .int .u8 p.dopts, .int .u8 p.flags, .int .u32 p.seq, .slice p.DA p.dn p.dc, .slice p.KA p.kn p.kc, .slice p.SA p.sn p.sc, .slice p.HA p.hn p.hc] 33)).alloc (.cells #[.int .u8 id1, .int .u16 kd1, .slice A1 n1 c1, .int .i64 sf1, .int .i64 su1, .int .i64 tf1, .int .i64 tu1] 59)).alloc (.cells #[.int .u8 id2, .int .u16 kd2, .slice A2 n2 c2, .int .i64 sf2, .int .i64 su2, .int .i64 tf2, .int .i64 tu2] 59)).alloc (.cells #[.int .u8 id1, .int .u16 kd1, .slice A1 n1 c1, .int .i64 sf1, .int .i64 su1, .int .i64 tf1, .int .i64 tu1, .int .u8 id2, .int .u16 kd2, .slice A2 n2 c2, .int .i64 sf2, .int .i64 su2, .int .i64 tf2, .int .i64 tu2] 59)) (some ⟨w.heap.size + 1 + 1 + 1, 0, none⟩) 2 [(⟨id1, kd1, A1, n1, c1, sf1, su1, tf1, tu1, bs1⟩ : AK), (⟨id2, kd2, A2, n2, c2, sf2, su2, tf2, tu2, bs2⟩ : AK)]) := Lib.hid (sc_new4 w p.C (⟨id1, kd1, A1, n1, c1, sf1, su1, tf1, tu1, bs1⟩ : AK) (⟨id2, kd2, A2, n2, c2, sf2, su2, tf2, tu2, bs2⟩ : AK) h1 h2)
  have HP := Lib.hid hp
  have HFt := Lib.hid hf
  have HK1 := Lib.hid h1
  have HK2 := Lib.hid h2
  have hs12 : ∀ k ∈ [(⟨id1, kd1, A1, n1, c1, sf1, su1, tf1, tu1, bs1⟩ : AK), (⟨id2, kd2, A2, n2, c2, sf2, su2, tf2, tu2, bs2⟩ : AK)], k.n ≤ 140737488351232 := by
    intro k hk
    simp only [List.mem_cons, List.not_mem_nil, or_false] at hk
    rcases hk with rfl | rfl
    · exact s1
    · exact s2
  have HS12 := Lib.hid hs12
  clear hp hf h1 h2 s1 s2 hs12
  go_enter Try.func6, Try.ntmps6
  go_wp2_with (first
    | (refine wpList_load_row rfl 59 _ rfl (w.heap.size + 1) rfl 59 #[.int .u8 id1, .int .u16 kd1, .slice A1 n1 c1, .int .i64 sf1, .int .i64 su1, .int .i64 tf1, .int .i64 tu1] (0, 0) _ HG0.out.a Try.underlying59 rfl info_key ?_)
    | (refine wpList_load_row rfl 59 _ rfl (w.heap.size + 1 + 1) rfl 59 #[.int .u8 id2, .int .u16 kd2, .slice A2 n2 c2, .int .i64 sf2, .int .i64 su2, .int .i64 tf2, .int .i64 tu2] (0, 0) _ HG0.out.b Try.underlying59 rfl info_key ?_))
  clear HG0
  generalize ((((w.alloc (.cells #[.int .u8 p.typ, .int .u32 p.router, .int .u32 p.area, .int .u32 p.mask, .int .u16 p.ivl, .int .u8 p.hopts, .int .u8 p.pri, .int .u32 p.dead, .int .u32 p.dr, .int .u32 p.bdr, .slice p.NA p.nn p.nc, .int .u16 p.mtu, .int .u8 p.dopts, .int .u8 p.flags, .int .u32 p.seq, .slice p.DA p.dn p.dc, .slice p.KA p.kn p.kc, .slice p.SA p.sn p.sc, .slice p.HA p.hn p.hc] 33)).alloc (.cells #[.int .u8 id1, .int .u16 kd1, .slice A1 n1 c1, .int .i64 sf1, .int .i64 su1, .int .i64 tf1, .int .i64 tu1] 59)).alloc (.cells #[.int .u8 id2, .int .u16 kd2, .slice A2 n2 c2, .int .i64 sf2, .int .i64 su2, .int .i64 tf2, .int .i64 tu2] 59)).alloc (.cells #[.int .u8 id1, .int .u16 kd1, .slice A1 n1 c1, .int .i64 sf1, .int .i64 su1, .int .i64 tf1, .int .i64 tu1, .int .u8 id2, .int .u16 kd2, .slice A2 n2 c2, .int .i64 sf2, .int .i64 su2, .int .i64 tf2, .int .i64 tu2] 59)) = w1 at *
  obtain ⟨gp, hgp⟩ : ∃ g, w.heap.size = g := ⟨_, rfl⟩
  obtain ⟨g1, hg1⟩ : ∃ g, gp + 1 = g := ⟨_, rfl⟩
  obtain ⟨g2, hg2⟩ : ∃ g, g1 + 1 = g := ⟨_, rfl⟩
  obtain ⟨g3, hg3⟩ : ∃ g, g2 + 1 = g := ⟨_, rfl⟩
  rw [hgp, hg1, hg2, hg3] at HG4
  try rw [hgp, hg1, hg2, hg3]
  clear hgp hg1 hg2 hg3
  have HG := Lib.hid HG4.out.1
  have HKK := Lib.hid HG4.out.2
  clear HG4
  refine (heavy8_any none (some ⟨g3, 0, none⟩) 0 0 2 2 [(⟨id1, kd1, A1, n1, c1, sf1, su1, tf1, tu1, bs1⟩ : AK), (⟨id2, kd2, A2, n2, c2, sf2, su2, tf2, tu2, bs2⟩ : AK)] w1 HKK.out (by omega) HS12.out (by omega)).mono ?_
  rintro e w' ⟨h, rfl, rfl, hh⟩
  have HH := Lib.hid hh
  clear hh HS12 HKK
  cases h with
  | true =>
    go_wp2_with fail
    refine (lives8_any w1).mono ?_
    rintro e w2 ⟨rfl, hbl⟩
    replace HG := Lib.hid (HG.out.later hbl)
    clear hbl
    go_wp2_with fail
    go_ret
    exact ⟨rfl, HG.out.l⟩
  | false =>
    have hn1 : n1 ≤ 131072 := (HH.out rfl).2.2 (⟨id1, kd1, A1, n1, c1, sf1, su1, tf1, tu1, bs1⟩ : AK) (List.mem_cons_self ..)
    have hn2 : n2 ≤ 131072 := (HH.out rfl).2.2 (⟨id2, kd2, A2, n2, c2, sf2, su2, tf2, tu2, bs2⟩ : AK) (List.mem_cons_of_mem _ (List.mem_cons_self ..))
    clear HH
    go_wp2_with (refine wpL_take (by rfl) (exec_load_row rfl rfl HG.out.p Try.underlying33 rfl info_pk) ?_)
    refine (sizePacket_any p w1 (HP.out.later HG.out.l) HFt.out).mono ?_
    rintro e w2 ⟨N, rfl, hfew, hb2⟩
    replace HG := Lib.hid (HG.out.later hb2)
    have HFw := Lib.hid hfew
    clear hfew hb2
    by_cases hN : 4096 < N
    · have dN : decide ((4096 : Int) < (N : Int)) = true := decide_eq_true (by omega)
      go_wp2_with fail
      refine (lives8_any w2).mono ?_
      rintro e w3 ⟨rfl, hbl⟩
      replace HG := Lib.hid (HG.out.later hbl)
      clear hbl
      go_wp2_with fail
      go_ret
      exact ⟨rfl, HG.out.l⟩
    have dN : decide ((4096 : Int) < (N : Int)) = false := decide_eq_false (by omega)
    have HFew := Lib.hid (HFw.out (by omega))
    clear HFw
    have HG5 := Lib.hid ((HG.out.far1 (.int .u16 1)).far2 (.int .u16 1))
    have c11 := HG.out.a.cell 1
    have f11 := HG.out.a.frozen 1
    have c21 := (HG.out.far1 (.int .u16 1)).b.cell 1
    have f21 := (HG.out.far1 (.int .u16 1)).b.frozen 1
    simp only [List.getElem?_toArray, List.getElem?_cons_zero, List.getElem?_cons_succ] at c11 c21
    go_wp2_with ((refine wpList_load_row rfl 59 _ rfl g1 rfl 59 #[.int .u8 id1, .int .u16 1, .slice A1 n1 c1, .int .i64 sf1, .int .i64 su1, .int .i64 tf1, .int .i64 tu1] (0, 0) _ HG5.out.a Try.underlying59 rfl info_key ?_))
    clear c11 f11 c21 f21 HG dN hN
    have HA1 : Hid (KOk w (⟨id1, 1, A1, n1, c1, sf1, su1, tf1, tu1, bs1⟩ : AK)) := Lib.hid ⟨HK1.out.id, (by decide : (0 : Int) ≤ 1 ∧ (1 : Int) ≤ 65535), HK1.out.sec, HK1.out.oct, HK1.out.cap⟩
    have HA2 : Hid (KOk w (⟨id2, 1, A2, n2, c2, sf2, su2, tf2, tu2, bs2⟩ : AK)) := Lib.hid ⟨HK2.out.id, (by decide : (0 : Int) ≤ 1 ∧ (1 : Int) ≤ 65535), HK2.out.sec, HK2.out.oct, HK2.out.cap⟩
    clear HK1 HK2
    obtain ⟨w5, hw5⟩ : ∃ x, (w2.setCell ⟨g1, 1, none⟩ (.int .u16 1)).setCell ⟨g2, 1, none⟩ (.int .u16 1) = x := ⟨_, rfl⟩
    have hs5 : w2.heap.size = w5.heap.size := by rw [← hw5]; simp [World.setCell]
    rw [hw5] at HG5 ⊢
    rw [hs5]
    clear hw5 hs5
    refine (given_one (some ⟨w5.heap.size, 0, none⟩) 1 (⟨id1, 1, A1, n1, c1, sf1, su1, tf1, tu1, bs1⟩ : AK) (w5.alloc (.cells #[.int .u8 id1, .int .u16 1, .slice A1 n1 c1, .int .i64 sf1, .int .i64 su1, .int .i64 tf1, .int .i64 tu1] 59)) (keys_one (w := w5) (k := (⟨id1, 1, A1, n1, c1, sf1, su1, tf1, tu1, bs1⟩ : AK)) (HA1.out.later HG5.out.l)) hn1).mono ?_
    rintro e w6 ⟨ad1, d1, k1', rfl, hky1, hd1, hdm1, hbs1, hco1, hb6⟩
    have HG := Lib.hid ((HG5.out.later ((Below.refl _ _).alloc (Nat.le_refl _) (.cells #[.int .u8 id1, .int .u16 1, .slice A1 n1 c1, .int .i64 sf1, .int .i64 su1, .int .i64 tf1, .int .i64 tu1] 59))).later hb6)
    have HY1 := Lib.hid hky1
    have HB1 := Lib.hid (show k1'.bs = bs1 from hbs1)
    have HC1 := Lib.hid hco1
    clear hky1 hbs1 hco1 hb6 HG5
    go_wp2_with (refine wpList_load_row rfl 59 _ rfl g2 rfl 59 #[.int .u8 id2, .int .u16 1, .slice A2 n2 c2, .int .i64 sf2, .int .i64 su2, .int .i64 tf2, .int .i64 tu2] (0, 0) _ HG.out.b Try.underlying59 rfl info_key ?_)
    refine (given_one (some ⟨w6.heap.size, 0, none⟩) 1 (⟨id2, 1, A2, n2, c2, sf2, su2, tf2, tu2, bs2⟩ : AK) (w6.alloc (.cells #[.int .u8 id2, .int .u16 1, .slice A2 n2 c2, .int .i64 sf2, .int .i64 su2, .int .i64 tf2, .int .i64 tu2] 59)) (keys_one (w := w6) (k := (⟨id2, 1, A2, n2, c2, sf2, su2, tf2, tu2, bs2⟩ : AK)) (HA2.out.later HG.out.l)) hn2).mono ?_
    rintro e w7 ⟨ad2, d2, k2', rfl, hky2, hd2, hdm2, hbs2, hco2, hb7⟩
    have hb67 := below_then ((Below.refl w6.heap.size w6).alloc (Nat.le_refl _) (.cells #[.int .u8 id2, .int .u16 1, .slice A2 n2 c2, .int .i64 sf2, .int .i64 su2, .int .i64 tf2, .int .i64 tu2] 59)) hb7
    replace HG := Lib.hid (HG.out.later hb67)
    replace HY1 := Lib.hid (HY1.out.later hb67)
    have HY2 := Lib.hid hky2
    have HB2 := Lib.hid (show k2'.bs = bs2 from hbs2)
    have HC2 := Lib.hid hco2
    clear hky2 hbs2 hco2 hb7 hb67
    go_wp2_with fail
    refine (ck_one ad1 d1 (⟨id1, 1, A1, n1, c1, sf1, su1, tf1, tu1, bs1⟩ : AK) k1' w7 HY1.out hd1 HC1.out).mono ?_
    obtain ⟨e1, he1⟩ : ∃ e1, cE (⟨id1, 1, A1, n1, c1, sf1, su1, tf1, tu1, bs1⟩ : AK) = e1 := ⟨_, rfl⟩
    rw [he1]
    have HE1 := Lib.hid he1
    clear he1
    rintro e w8 ⟨rfl, hb8⟩
    replace HG := Lib.hid (HG.out.later hb8)
    replace HY1 := Lib.hid (HY1.out.later hb8)
    replace HY2 := Lib.hid (HY2.out.later hb8)
    clear hb8
    go_wp2_with fail
    refine (ck_one ad2 d2 (⟨id2, 1, A2, n2, c2, sf2, su2, tf2, tu2, bs2⟩ : AK) k2' w8 HY2.out hd2 HC2.out).mono ?_
    obtain ⟨e2, he2⟩ : ∃ e2, cE (⟨id2, 1, A2, n2, c2, sf2, su2, tf2, tu2, bs2⟩ : AK) = e2 := ⟨_, rfl⟩
    rw [he2]
    have HE2 := Lib.hid he2
    clear he2
    rintro e w9 ⟨rfl, hb9⟩
    replace HG := Lib.hid (HG.out.later hb9)
    replace HY1 := Lib.hid (HY1.out.later hb9)
    replace HY2 := Lib.hid (HY2.out.later hb9)
    clear hb9
    go_wp2_with (refine wpList_load_row rfl 33 _ rfl gp rfl 33 #[.int .u8 p.typ, .int .u32 p.router, .int .u32 p.area, .int .u32 p.mask, .int .u16 p.ivl, .int .u8 p.hopts, .int .u8 p.pri, .int .u32 p.dead, .int .u32 p.dr, .int .u32 p.bdr, .slice p.NA p.nn p.nc, .int .u16 p.mtu, .int .u8 p.dopts, .int .u8 p.flags, .int .u32 p.seq, .slice p.DA p.dn p.dc, .slice p.KA p.kn p.kc, .slice p.SA p.sn p.sc, .slice p.HA p.hn p.hc] (0, 0) _ HG.out.p Try.underlying33 rfl info_pk ?_)
    refine (copyPacket_any p w9 (HP.out.later HG.out.l) HFew.out).mono ?_
    rintro e w10 ⟨q, rfl, hsame, hqy, hb10⟩
    have HQ := Lib.hid (And.intro (hqy.rd (hsame.rng HP.out.ok.rng)) (hsame.few HFew.out))
    replace HG := Lib.hid (HG.out.later hb10)
    replace HY1 := Lib.hid (HY1.out.later hb10)
    replace HY2 := Lib.hid (HY2.out.later hb10)
    clear hsame hqy hb10 HP HFew HFt
    go_wp2_with fail
    refine (encode_any w10 q (auL 0 []) HQ.out.1 HQ.out.2 zeroAu_ok).mono ?_
    rintro e w11 (⟨hok, u, rfl, ho, hb11⟩ | ⟨hno, k, hk0, _, rfl, hb11⟩)
    rotate_left
    · replace HG := Lib.hid (HG.out.later hb11)
      have hkb : (k != 0) = true := by simpa using hk0
      clear hb11 hno
      by_cases h1 : e1 = 0
      · have b1 : (e1 != 0) = false := by simpa using h1
        by_cases h2 : e2 = 0
        · have b2 : (e2 != 0) = false := by simpa using h2
          clear h1 h2
          go_wp2_with fail
          refine (lives8_any w11).mono ?_
          rintro e w12 ⟨rfl, hbl⟩
          replace HG := Lib.hid (HG.out.later hbl)
          clear hbl
          go_wp2_with fail
          go_ret
          exact ⟨rfl, HG.out.l⟩
        · have b2 : (e2 != 0) = true := by simpa using h2
          clear h1 h2
          go_wp2_with fail
          refine (lives8_any w11).mono ?_
          rintro e w12 ⟨rfl, hbl⟩
          replace HG := Lib.hid (HG.out.later hbl)
          clear hbl
          go_wp2_with fail
          go_ret
          exact ⟨rfl, HG.out.l⟩
      · have b1 : (e1 != 0) = true := by simpa using h1
        clear h1
        go_wp2_with fail
        refine (lives8_any w11).mono ?_
        rintro e w12 ⟨rfl, hbl⟩
        replace HG := Lib.hid (HG.out.later hbl)
        clear hbl
        go_wp2_with fail
        go_ret
        exact ⟨rfl, HG.out.l⟩
    replace HG := Lib.hid (HG.out.later hb11)
    have HEo : Hid (Oct (encB1 q (auL 0 []))) := Lib.hid (encB1_oct HQ.out.1.ok zeroAu_ok HQ.out.1 HQ.out.2)
    have HE1o : Hid (Oct (encB1 q (auL 1 (pw bs1)))) := Lib.hid (encB1_oct HQ.out.1.ok (auL_ok (by decide) (pw_length _) (pw_oct HA1.out.oct)) HQ.out.1 HQ.out.2)
    replace HY1 := Lib.hid (HY1.out.later hb11)
    replace HY2 := Lib.hid (HY2.out.later hb11)
    have hL := encL_ge q (auL 0 [])
    have hM := hok.len
    obtain ⟨gb, cap, rfl, hgb, hnc, hcm, hrow⟩ := Row.of_own ho (by omega)
    unfold maxLen at hcm
    have HRow := Lib.hid hrow
    have HOk := Lib.hid hok
    clear hok ho hb11 hgb hrow HQ
    obtain ⟨n, hn⟩ : ∃ n, encL q (auL 0 []) = n := ⟨_, rfl⟩
    rw [hn] at hL hM hnc ⊢
    have HN := Lib.hid hn
    clear hn
    by_cases h1 : e1 = 0
    rotate_left
    · have b1 : (e1 != 0) = true := by simpa using h1
      clear h1
      go_wp2_with fail
      refine (lives8_any w11).mono ?_
      rintro e w12 ⟨rfl, hbl⟩
      replace HG := Lib.hid (HG.out.later hbl)
      clear hbl
      go_wp2_with fail
      go_ret
      exact ⟨rfl, HG.out.l⟩
    have b1 : (e1 != 0) = false := by simpa using h1
    by_cases h2 : e2 = 0
    rotate_left
    · have b2 : (e2 != 0) = true := by simpa using h2
      clear h1 h2
      go_wp2_with fail
      refine (lives8_any w11).mono ?_
      rintro e w12 ⟨rfl, hbl⟩
      replace HG := Lib.hid (HG.out.later hbl)
      clear hbl
      go_wp2_with fail
      go_ret
      exact ⟨rfl, HG.out.l⟩
    have b2 : (e2 != 0) = false := by simpa using h2
    have HM1 : Hid (mayB (⟨id1, 1, A1, n1, c1, sf1, su1, tf1, tu1, bs1⟩ : AK) = true) := Lib.hid (cE_may (HE1.out.trans h1))
    have HM2 : Hid (mayB (⟨id2, 1, A2, n2, c2, sf2, su2, tf2, tu2, bs2⟩ : AK) = true) := Lib.hid (cE_may (HE2.out.trans h2))
    clear h1 h2 HE1 HE2
    have c13 : w11.cell? ⟨g1, 3, none⟩ = some (.int .i64 sf1) := HG.out.a.cell 3
    go_wp2_with fail
    clear b1 b2 c13
    have hmp := may_plain HM1.out rfl
    have hmq := may_plain HM2.out rfl
    simp only at hmp hmq
    have hck : checkOf [k1'] = (0, 0) := by rw [core_check HC1.out, check_one, HM1.out]; rfl
    have hch : chooseOf [k1'] sf1 = ((0 : Nat) : Int) := by rw [core_choose sf1 HC1.out]; exact choose_one (k := (⟨id1, 1, A1, n1, c1, sf1, su1, tf1, tu1, bs1⟩ : AK)) hmp.2.2.2.1
    have hkd : k1'.kind = 1 := by have h := HC1.out; simp only [List.map_cons, List.map_nil, List.cons.injEq, and_true] at h; exact core_kind h
    refine (sign_plain (some ⟨gb, 0, none⟩) n cap (encB q (auL 0 [])) ad1 1 d1 [k1'] k1' 0 sf1 0 w11 (HRow.out.u8reads (by rw [encB_len]; exact HN.out)) (encB_oct HOk.out HEo.out) hL (by omega) hnc (by omega) HY1.out (by decide) (by decide) hd1 hdm1 (by rw [enc_pkLen q _ HOk.out, HN.out]) (enc_kind q _ (by decide)) (by rw [← HN.out]; exact enc_whole q _ HOk.out (by decide) HEo.out) (fun j hj => enc_zero q hj) (enc_15 q) hck hch rfl hkd).mono ?_
    rintro e w12 ⟨gc, capc, R, rfl, hnc2, hcm2, hsf⟩
    rw [sign_enc, HB1.out] at hsf
    replace HG := Lib.hid (HG.out.later hsf.bel)
    replace HY2 := Lib.hid (HY2.out.later hsf.bel)
    have HC := Lib.hid hsf.cb
    have HOk1 : Hid (EncOk q (auL 1 (pw bs1))) := Lib.hid (encOk_au HOk.out _ (show (1 : Int) ≤ 2 from by decide))
    have HN1 : Hid (encL q (auL 1 (pw bs1)) = n) := Lib.hid ((encL_au q _ _).trans HN.out)
    obtain ⟨ys, hys⟩ : ∃ ys, encB q (auL 1 (pw bs1)) = ys := ⟨_, rfl⟩
    have HYs : Hid (ys.length = n ∧ Oct ys ∧ pkLen ys = ((n : Int), 0) ∧ pkKind ys = 1 ∧ wholeOf ys n = 0 ∧ (ys.drop 16).take 8 = pw bs1) := Lib.hid (by
      subst hys
      exact ⟨by rw [encB_len]; exact HN1.out, encB_oct HOk1.out HE1o.out, by rw [enc_pkLen q _ HOk1.out, HN1.out], enc_kind q _ (show (0 : Int) ≤ 1 ∧ (1 : Int) ≤ 65535 from by decide), by rw [← HN1.out]; exact enc_whole q _ HOk1.out (show (1 : Int) ≠ 2 from by decide) HE1o.out, enc_data q _ 1 (pw_length _)⟩)
    rw [hys] at HC
    clear hys HOk1 HN1 HE1o
    have hl1 : bs1.length = n1 := HA1.out.sec.u8len
    have hl2 : bs2.length = n2 := HA2.out.sec.u8len
    clear hsf hck hch hkd HY1 HRow HEo HOk HN hnc hcm
    have c12 : w12.cell? ⟨g1, 2, none⟩ = some (.slice A1 n1 c1) := HG.out.a.cell 2
    go_wp2_with fail
    clear c12
    refine (copyBytes_any A1 n1 c1 bs1 w12 (HA1.out.sec.later HG.out.l) (by omega)).mono ?_
    rintro e w13 ⟨vx, rfl, hox, hb13⟩
    rw [HA1.out.sec.u8len] at hox
    have HOx := Lib.hid hox
    have HB13 := Lib.hid hb13
    clear hox hb13
    have c22 : w13.cell? ⟨g2, 2, none⟩ = some (.slice A2 n2 c2) := (HG.out.later HB13.out).b.cell 2
    go_wp2_with fail
    clear c22
    refine (copyBytes_any A2 n2 c2 bs2 w13 (HA2.out.sec.later (HG.out.later HB13.out).l) (by omega)).mono ?_
    rintro e w14 ⟨vy, rfl, hoy, hb14⟩
    rw [HA2.out.sec.u8len] at hoy
    have HL : Hid (Lp2 w12 vx vy n1 n2 bs1 bs2 w14) := Lib.hid ⟨own_kept HOx.out (Kept.of_new hb14 (fun _ => False)) (fun _ _ h => h), own_mono hoy HB13.out.size, fun i h1 h2 => by have := (own_ge HOx.out h1).2; have := (own_ge hoy h2).1; omega, below_then HB13.out hb14⟩
    clear hoy hb14 HOx HB13
    go_wp2_with fail
    go_loopw [17] (LpR w12 n1 bs1 bs2 vy n2) (fun v _ => 8 - lenOf v)
    case atStart => exact ⟨0, by omega, by simpa using HL⟩
    case round =>
      obtain ⟨j, hj, hL'⟩ := hrel
      obtain ⟨Ax, cx, rfl, _, _, _⟩ := own_shape_n hL'.out.a
      have HL1 := Lib.hid hL'.out
      clear HL hL'
      obtain ⟨m, hm⟩ : ∃ m, n1 + j = m := ⟨_, rfl⟩
      rw [hm] at HL1 ⊢
      by_cases hlt : m < 8
      · have dm : decide ((m : Int) < 8) = true := decide_eq_true (by omega)
        have hb1 := (Below.refl wr.heap.size wr).alloc (Nat.le_refl _) (.cells #[.int .u8 0] 5)
        have HL2 := Lib.hid (HL1.out.later hb1)
        have HR0 : Hid (Reads (wr.alloc (.cells #[.int .u8 0] 5)) (wr.alloc (.cells #[.int .u8 0] 5)).heap.size 1 (some ⟨wr.heap.size, 0, none⟩) 1 (u8s [0])) := Lib.hid (Reads.lit_ wr (u8s [0]) 5 rfl)
        clear hb1 HL1
        go_wp2_with (at_builtin; refine wpList_app el_u8 rfl (.tmp 90) (.tmp 91) rfl HL2.out.a rfl HR0.out rfl u8s_one (by simp only [maxLen]; omega) (by omega) HL2.out.l.size ?_; intro v' w' ho' hb' hg' hv'; have HL3 := Lib.hid (HL2.out.grow ho' hg' hb' hv'); obtain ⟨Ay, cy, rfl, _, _, _⟩ := own_shape_n ho'; clear ho' hb' hg' hv' HL2 HR0)
        exact ⟨⟨j + 1, by omega, by rw [show n1 + (j + 1) = m + 1 by omega, List.replicate_succ', ← List.append_assoc]; exact HL3⟩, by simp [lenOf]; omega⟩
      · have dm : decide ((m : Int) < 8) = false := decide_eq_false (by omega)
        obtain rfl : m = 8 := by omega
        clear hlt
        have hpw : bs1 ++ List.replicate j 0 = pw bs1 := by rw [pw_short (by omega)]; congr 2; omega
        rw [hpw] at HL1
        have HL := Lib.hid HL1.out.symm
        clear HL1 hpw hm hj
        go_wp2_with fail
        go_loopw [18] (LpR w12 n2 bs2 (pw bs1) (.slice Ax 8 cx) 8) (fun v _ => 8 - lenOf v)
        case atStart => exact ⟨0, by omega, by simpa using HL⟩
        case round =>
          obtain ⟨j, hj, hL'⟩ := hrel
          obtain ⟨Bx, bx, rfl, _, _, _⟩ := own_shape_n hL'.out.a
          have HL1 := Lib.hid hL'.out
          clear HL hL'
          obtain ⟨m, hm⟩ : ∃ m, n2 + j = m := ⟨_, rfl⟩
          rw [hm] at HL1 ⊢
          by_cases hlt : m < 8
          · have dm : decide ((m : Int) < 8) = true := decide_eq_true (by omega)
            have hb1 := (Below.refl wr.heap.size wr).alloc (Nat.le_refl _) (.cells #[.int .u8 0] 5)
            have HL2 := Lib.hid (HL1.out.later hb1)
            have HR0 : Hid (Reads (wr.alloc (.cells #[.int .u8 0] 5)) (wr.alloc (.cells #[.int .u8 0] 5)).heap.size 1 (some ⟨wr.heap.size, 0, none⟩) 1 (u8s [0])) := Lib.hid (Reads.lit_ wr (u8s [0]) 5 rfl)
            clear hb1 HL1
            go_wp2_with (at_builtin; refine wpList_app el_u8 rfl (.tmp 96) (.tmp 97) rfl HL2.out.a rfl HR0.out rfl u8s_one (by simp only [maxLen]; omega) (by omega) HL2.out.l.size ?_; intro v' w' ho' hb' hg' hv'; have HL3 := Lib.hid (HL2.out.grow ho' hg' hb' hv'); obtain ⟨By, by_, rfl, _, _, _⟩ := own_shape_n ho'; clear ho' hb' hg' hv' HL2 HR0)
            exact ⟨⟨j + 1, by omega, by rw [show n2 + (j + 1) = m + 1 by omega, List.replicate_succ', ← List.append_assoc]; exact HL3⟩, by simp [lenOf]; omega⟩
          · have dm : decide ((m : Int) < 8) = false := decide_eq_false (by omega)
            obtain rfl : m = 8 := by omega
            clear hlt
            have hpw : bs2 ++ List.replicate j 0 = pw bs2 := by rw [pw_short (by omega)]; congr 2; omega
            rw [hpw] at HL1
            have HL := Lib.hid HL1.out.symm
            clear HL1 hpw hm hj
            go_wp2_with fail
            replace HG := Lib.hid (HG.out.later HL.out.l)
            replace HY2 := Lib.hid (HY2.out.later HL.out.l)
            replace HC := Lib.hid (HC.out.later HL.out.l)
            have HCk : Hid (checkOf [k2'] = (0, 0) ∧ kind0 [k2'] = 1) := Lib.hid ⟨by rw [core_check HC2.out, check_one, HM2.out]; rfl, by rw [core_kind0 HC2.out]; rfl⟩
            obtain ⟨N3, e3, ho3, hie⟩ := op_tf HYs.out.2.2.2.2.2 HC2.out HB2.out hmq.2.2.2.2.2 n
            have HO3 := Lib.hid ho3
            have HI3 := Lib.hid hie
            have HO4 := Lib.hid (op_tf1 HYs.out.2.2.2.2.2 HC2.out n)
            clear ho3 hie HC2 HB2 HM1 HM2 HA1 HA2 HB1 HC1 hl1 hl2
            replace HG := Lib.hid (HG.out.later (Below.refl _ _).drew)
            replace HY2 := Lib.hid (HY2.out.later (Below.refl _ _).drew)
            replace HC := Lib.hid (HC.out.later (Below.refl _ _).drew)
            replace HL := Lib.hid (HL.out.later (Below.refl _ _).drew)
            have HS : Hid ((fun W : World => W.cell? ⟨g2, 5, none⟩ = some (.int .i64 tf2)) wr.drew) := Lib.hid (HG.out.b.cell 5)
            refine wp_region_s (fun W : World => W.cell? ⟨g2, 5, none⟩ = some (.int .i64 tf2)) [(0, true), (2, true), (3, true), (4, true), (1, false), (5, false), (6, true), (7, true), (8, true), (9, true), (10, true), (11, true), (12, true)] (by kernel_rfl) (fun _ d _ _ _ h => by cases d <;> exact h) ?_
            simp only [List.map_cons, List.map_nil, nthOp_zero, nthOp_succ]
            generalize wr.drew = wa at *
            refine wpS_take HS (by rfl) (by intro W hW; clear hW; go_simp; try with_reducible rfl) ?_
            refine wpS_take HS (by rfl) (by intro W hW; clear hW; go_simp; try with_reducible rfl) ?_
            refine wpS_take HS (by rfl) (by intro W hW; clear hW; go_simp; try with_reducible rfl) ?_
            refine wpS_take HS (by rfl) (by intro W hW; have cu : W.cell? ⟨g2, 5, none⟩ = some (.int .i64 tf2) := hW; clear hW; go_simp; try with_reducible rfl) ?_
            refine wpS_do fun K hK => ?_
            go_wp2_with fail
            refine (copyBytes_row (some ⟨gc, 0, none⟩) n capc ys wa (HC.out.reads HYs.out.1) (by omega) (by omega)).mono ?_
            rintro e wb ⟨gd, capd, rfl, _, hdc, hdm, hrd, hbd⟩
            rw [HYs.out.1] at hdc ⊢
            replace HG := Lib.hid (HG.out.later hbd)
            replace HY2 := Lib.hid (HY2.out.later hbd)
            replace HC := Lib.hid (HC.out.later hbd)
            replace HL := Lib.hid (HL.out.later hbd)
            have HD := Lib.hid (hrd.u8reads HYs.out.1)
            clear hrd hbd HS
            go_wp2_with fail
            refine hK.out _ _ (HG.out.b.cell 5) ?_
            clear hK K
            refine wpS_do fun K hK => ?_
            go_wp2_with fail
            have hop := open_plain (some ⟨gd, 0, none⟩) (some ad2) n capd 1 d2 n ys [k2'] tf2 wb HD.out HYs.out.2.1 hdc hdm (by omega) HY2.out hd2 hdm2 (by decide) HYs.out.2.2.1 HCk.out.1 HCk.out.2 HYs.out.2.2.2.1 HYs.out.2.2.2.2.1
            rw [HO3.out] at hop
            refine hop.mono ?_
            clear hop
            rintro e wc ⟨rfl, hbd⟩
            replace HG := Lib.hid (HG.out.later hbd)
            replace HY2 := Lib.hid (HY2.out.later hbd)
            replace HC := Lib.hid (HC.out.later hbd)
            replace HL := Lib.hid (HL.out.later hbd)
            clear hbd HD hdc hdm
            have HS : Hid ((fun W : World => W.cell? ⟨g2, 5, none⟩ = some (.int .i64 tf2)) wc) := Lib.hid (HG.out.b.cell 5)
            go_wp2_with fail
            refine hK.out _ _ HS.out ?_
            clear hK K
            refine wpS_take HS (by rfl) (by intro W hW; clear hW; go_simp; try with_reducible rfl) ?_
            refine wpS_take HS (by rfl) (by intro W hW; clear hW; go_simp; try with_reducible rfl) ?_
            refine wpS_take HS (by rfl) (by intro W hW; clear hW; go_simp; try with_reducible rfl) ?_
            refine wpS_take HS (by rfl) (by intro W hW; clear hW; go_simp; try with_reducible rfl) ?_
            refine wpS_take HS (by rfl) (by intro W hW; clear hW; go_simp; try with_reducible rfl) ?_
            refine wpS_take HS (by rfl) (by intro W hW; clear hW; go_simp; try with_reducible rfl) ?_
            refine wpS_take HS (by rfl) (by intro W hW; clear hW; go_simp; try with_reducible rfl) ?_
            clear HS
            refine wpS_nil ?_
            go_simp
            go_wp2_with fail
            have wt : IntKind.i64.wrap (tf2 - 1) = tf2 - 1 := by rw [IntKind.wrap_i64]; omega
            replace HG := Lib.hid (HG.out.later (Below.refl _ _).drew)
            replace HY2 := Lib.hid (HY2.out.later (Below.refl _ _).drew)
            replace HC := Lib.hid (HC.out.later (Below.refl _ _).drew)
            replace HL := Lib.hid (HL.out.later (Below.refl _ _).drew)
            have HS : Hid ((fun W : World => W.cell? ⟨g2, 5, none⟩ = some (.int .i64 tf2)) wc.drew) := Lib.hid (HG.out.b.cell 5)
            refine wp_region_s (fun W : World => W.cell? ⟨g2, 5, none⟩ = some (.int .i64 tf2)) [(0, true), (2, true), (3, true), (4, true), (5, true), (1, false), (6, false), (7, true), (8, true), (9, true), (10, true), (11, true), (12, true), (13, true)] (by kernel_rfl) (fun _ d _ _ _ h => by cases d <;> exact h) ?_
            simp only [List.map_cons, List.map_nil, nthOp_zero, nthOp_succ]
            generalize wc.drew = wd at *
            refine wpS_take HS (by rfl) (by intro W hW; clear hW; go_simp; try with_reducible rfl) ?_
            refine wpS_take HS (by rfl) (by intro W hW; clear hW; go_simp; try with_reducible rfl) ?_
            refine wpS_take HS (by rfl) (by intro W hW; clear hW; go_simp; try with_reducible rfl) ?_
            refine wpS_take HS (by rfl) (by intro W hW; have cu : W.cell? ⟨g2, 5, none⟩ = some (.int .i64 tf2) := hW; clear hW; go_simp; try with_reducible rfl) ?_
            refine wpS_take HS (by rfl) (by intro W hW; clear hW; go_simp; try with_reducible rfl) ?_
            refine wpS_do fun K hK => ?_
            go_wp2_with fail
            refine (copyBytes_row (some ⟨gc, 0, none⟩) n capc ys wd (HC.out.reads HYs.out.1) (by omega) (by omega)).mono ?_
            rintro e we ⟨gd, capd, rfl, _, hdc, hdm, hrd, hbd⟩
            rw [HYs.out.1] at hdc ⊢
            replace HG := Lib.hid (HG.out.later hbd)
            replace HY2 := Lib.hid (HY2.out.later hbd)
            replace HC := Lib.hid (HC.out.later hbd)
            replace HL := Lib.hid (HL.out.later hbd)
            have HD := Lib.hid (hrd.u8reads HYs.out.1)
            clear hrd hbd HS
            go_wp2_with fail
            refine hK.out _ _ (HG.out.b.cell 5) ?_
            clear hK K
            refine wpS_do fun K hK => ?_
            go_wp2_with fail
            have hop := open_plain (some ⟨gd, 0, none⟩) (some ad2) n capd 1 d2 n ys [k2'] (tf2 - 1) we HD.out HYs.out.2.1 hdc hdm (by omega) HY2.out hd2 hdm2 (by decide) HYs.out.2.2.1 HCk.out.1 HCk.out.2 HYs.out.2.2.2.1 HYs.out.2.2.2.2.1
            rw [HO4.out] at hop
            refine hop.mono ?_
            clear hop
            rintro e wf ⟨rfl, hbd⟩
            replace HG := Lib.hid (HG.out.later hbd)
            replace HY2 := Lib.hid (HY2.out.later hbd)
            replace HC := Lib.hid (HC.out.later hbd)
            replace HL := Lib.hid (HL.out.later hbd)
            clear hbd HD hdc hdm
            have HS : Hid ((fun W : World => W.cell? ⟨g2, 5, none⟩ = some (.int .i64 tf2)) wf) := Lib.hid (HG.out.b.cell 5)
            go_wp2_with fail
            refine hK.out _ _ HS.out ?_
            clear hK K
            refine wpS_take HS (by rfl) (by intro W hW; clear hW; go_simp; try with_reducible rfl) ?_
            refine wpS_take HS (by rfl) (by intro W hW; clear hW; go_simp; try with_reducible rfl) ?_
            refine wpS_take HS (by rfl) (by intro W hW; clear hW; go_simp; try with_reducible rfl) ?_
            refine wpS_take HS (by rfl) (by intro W hW; clear hW; go_simp; try with_reducible rfl) ?_
            refine wpS_take HS (by rfl) (by intro W hW; clear hW; go_simp; try with_reducible rfl) ?_
            refine wpS_take HS (by rfl) (by intro W hW; clear hW; go_simp; try with_reducible rfl) ?_
            refine wpS_take HS (by rfl) (by intro W hW; clear hW; go_simp; try with_reducible rfl) ?_
            clear HS
            refine wpS_nil ?_
            go_simp
            go_wp2_with fail
            refine (eqBytes_any Ax Bx 8 cx 8 bx (pw bs1) (pw bs2) wf wf.heap.size wf.heap.size (Reads.of_own HL.out.a) (Reads.of_own HL.out.b) (by decide) (by decide)).mono ?_
            rintro e wg ⟨rfl, kd, rfl⟩
            replace HG := Lib.hid (HG.out.later (below_of_drewN _ wf kd))
            generalize wf.drewN kd = wg at *
            by_cases hq : pw bs1 = pw bs2
            · have q1 : (e3 == 0) = true := by rw [HI3.out.2 hq]; rfl
              rw [decide_eq_true hq]
              clear hq HI3
              go_wp2_with fail
              refine (lives8_any wg).mono ?_
              rintro e wh ⟨rfl, hbl⟩
              replace HG := Lib.hid (HG.out.later hbl)
              clear hbl
              go_wp2_with fail
              go_ret
              exact ⟨rfl, HG.out.l⟩
            · have q1 : (e3 == 0) = false := by simpa using fun h => hq (HI3.out.1 h)
              rw [decide_eq_false hq]
              clear hq HI3
              go_wp2_with fail
              refine (lives8_any wg).mono ?_
              rintro e wh ⟨rfl, hbl⟩
              replace HG := Lib.hid (HG.out.later hbl)
              clear hbl
              go_wp2_with fail
              go_ret
              exact ⟨rfl, HG.out.l⟩
end Go.Proofs.Ytbkejlalbjomkaa
