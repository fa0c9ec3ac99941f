/-
  StateRound: Encode as one; heavy; the walk up to the first Encode.
-/
import Derived.Test.YtljedcfpbdompaaStaM4
import Derived.Test.YtljedcfpbdompaaSta27
namespace Go.Proofs.Ytljedcfpbdompaa
set_option linter.unusedVariables false
open Go.RowKit Go.ChangeShapes Go.WideShapes

def zS : SE := ⟨⟨0, 0, 0, 0, 0, 0, 0, 0⟩, none, 0, 0, []⟩
/-- What Encode says. -/
def EncOk (h : Hd) (b : BA) : Prop := Kn h.typ ∧ mayB h.typ b = true ∧ b.ln ≤ 65535 ∧ (bdB h.typ b).length ≤ 65515
def EncS (h : Hd) (b : BA) (s : SE) (k : Int) (base : Nat) (w' : World) : Prop :=
  (k ≠ 0 ∧ s = zS ∧ ¬ EncOk h b) ∨ (k = 0 ∧ EncOk h b ∧ SealedS s h ∧ s.B = bdB h.typ b ∧ s.n = (bdB h.typ b).length ∧ s.ok base w')
theorem encode_any (w : World) (h : Hd) (hok : h.ok) (b : BA) (hb : b.rd w) : Calls Try.prog 8 #[h.v, b.v] w fun e w' => ∃ (s : SE) (k : Int), e = .returned (.tuple #[s.v, .int .i64 k]) ∧ EncS h b s k w.heap.size w' ∧ Below w.heap.size w w' := by
  by_cases hk : Kn h.typ
  · cases hm : mayB h.typ b with
    | false => exact (enc_body w h hok b hb hk hm).mono fun e w' ⟨h1, h2⟩ => ⟨zS, 28, h1, .inl ⟨by decide, rfl, fun hh => by have := hh.2.1; rw [hm] at this; cases this⟩, h2⟩
    | true =>
      by_cases hl : b.ln ≤ 65535
      · by_cases hlen : (bdB h.typ b).length ≤ 65515
        · exact (enc_ok w h hok b hb hk hm (may_metric hm) hl hlen).mono fun e w' ⟨s, h1, ⟨g1, g2, g3, g4⟩, h2⟩ => ⟨s, 0, h1, .inr ⟨rfl, ⟨hk, hm, hl, hlen⟩, ⟨by rw [g1, g2]⟩, g2, g3, g4⟩, h2⟩
        · exact (enc_long w h hok b hb hk hm (may_metric hm) hl (by omega)).mono fun e w' ⟨h1, h2⟩ => ⟨zS, 11, h1, .inl ⟨by decide, rfl, fun hh => hlen hh.2.2.2⟩, h2⟩
      · exact (enc_links w h hok b hb hk hm (by omega)).mono fun e w' ⟨h1, h2⟩ => ⟨zS, 11, h1, .inl ⟨by decide, rfl, fun hh => hl hh.2.2.1⟩, h2⟩
  · exact (enc_type w h hok b hk).mono fun e w' ⟨h1, h2⟩ => ⟨zS, 21, h1, .inl ⟨by decide, rfl, fun hh => hk hh.1⟩, h2⟩
def heavyB (b : BA) : Bool := decide (8192 < b.ln) || decide (32768 < b.rn) || decide (131072 < b.dn)
set_option maxRecDepth 100000 in
set_option maxHeartbeats 4000000 in
theorem heavy_any (b : BA) (w : World) : Calls Try.prog 6 #[b.v] w fun e w' => e = .returned (.bool (heavyB b)) ∧ Below w.heap.size w w' := by
  have hb0 : Below w.heap.size w (w.alloc (.cells #[.int .u8 b.flags, .slice b.LA b.ln b.lc, .int .u32 b.mask, .slice b.RA b.rn b.rc, .int .u32 b.metric, .bool b.t2, .int .u32 b.fwd, .int .u32 b.tag, .slice b.DA b.dn b.dc] 30)) := (Below.refl _ _).alloc (Nat.le_refl _) _
  have HB := Lib.hid hb0
  obtain ⟨c0, c1, c2, c3, c4, c5, c6, c7, c8⟩ := body_facts (show BBlk (w.alloc (.cells #[.int .u8 b.flags, .slice b.LA b.ln b.lc, .int .u32 b.mask, .slice b.RA b.rn b.rc, .int .u32 b.metric, .bool b.t2, .int .u32 b.fwd, .int .u32 b.tag, .slice b.DA b.dn b.dc] 30)) w.heap.size b from Blk.new _ _ _)
  have hz : heavyB b = (decide ((8192 : Int) < b.ln) || decide ((32768 : Int) < b.rn) || decide ((131072 : Int) < b.dn)) := by
    unfold heavyB
    congr 1
    · congr 1 <;> exact decide_eq_decide.2 (by omega)
    · exact decide_eq_decide.2 (by omega)
  clear hb0
  cases h1 : decide ((8192 : Int) < b.ln) <;> cases h2 : decide ((32768 : Int) < b.rn) <;> cases h3 : decide ((131072 : Int) < b.dn) <;> rw [h1, h2, h3] at hz <;>
    (go_enter Try.func6, Try.ntmps6
     go_wp2_with fail
     go_ret
     exact ⟨by rw [hz]; rfl, HB.out⟩)
theorem encS_later {h : Hd} {b : BA} {s : SE} {k : Int} {base : Nat} {W W2 : World} (e : EncS h b s k base W) (hb : Below W.heap.size W W2) : EncS h b s k base W2 := by
  rcases e with h | ⟨h1, h2, h3, h4, h5, h6⟩
  · exact .inl h
  · exact .inr ⟨h1, h2, h3, h4, h5, h6.later hb⟩
/-- What stands behind StateRound's first Encode. -/
structure RdW (w W : World) (g3 g4 : Nat) (h : Hd) (b : BA) : Prop where
  x3 : HdBlk W g3 h
  x4 : BBlk W g4 b
  bl : Below w.heap.size w W
theorem RdW.later {w W W' : World} {g3 g4 : Nat} {h : Hd} {b : BA} (f : RdW w W g3 g4 h b) (hb : Below W.heap.size W W') : RdW w W' g3 g4 h b := ⟨Blk.later f.x3 hb, Blk.later f.x4 hb, below_then f.bl hb⟩
def EncW (h : Hd) (b : BA) (s : SE) (k : Int) (W : World) : Prop :=
  (k ≠ 0 ∧ s = zS) ∨ (k = 0 ∧ EncOk h b ∧ SealedS s h ∧ s.B = bdB h.typ b ∧ s.n = (bdB h.typ b).length ∧ s.rd W)
theorem EncW.later {h : Hd} {b : BA} {s : SE} {k : Int} {W W' : World} (e : EncW h b s k W) (hb : Below W.heap.size W W') : EncW h b s k W' := by
  rcases e with h | ⟨h1, h2, h3, h4, h5, h6⟩
  · exact .inl h
  · exact .inr ⟨h1, h2, h3, h4, h5, h6.later hb⟩
/-- A copy of the body was encoded, and what came is laid into a block. -/
theorem enc_laid {w W W2 : World} {g3 g4 g7 base : Nat} {h : Hd} {b b' : BA} {s : SE} {k : Int} (f : RdW w W g3 g4 h b) (hs : SameB b b') (h1 : b'.ln = b.ln) (h2 : b'.rn = b.rn) (h3 : b'.dn = b.dn) (he : EncS h b' s k base W)
    (hz : Blk W g7 34 zC) (hg : w.heap.size ≤ g7) (hn : g7 < base ∨ (base ≤ g7 ∧ W2.heap.size ≤ g7)) (h2s : EncS h b' s k base W2) :
    RdW w (W.setRow g7 (stC s.h s.A s.n s.c)) g3 g4 h b ∧ Blk (W.setRow g7 (stC s.h s.A s.n s.c)) g7 34 (stC s.h s.A s.n s.c) ∧ EncW h b s k (W.setRow g7 (stC s.h s.A s.n s.c)) := by
  have k1 : Kept (fun i => i = g7) W (W.setRow g7 (stC s.h s.A s.n s.c)) := (Kept.of_grown (only_setRow W g7 _)).mono fun i _ e => by injection e with e; exact e.symm
  have n3 : g3 ≠ g7 := blk_ne f.x3 hz (by decide)
  have n4 : g4 ≠ g7 := blk_ne f.x4 hz (by decide)
  refine ⟨⟨Blk.kept f.x3 k1 n3, Blk.kept f.x4 k1 n4, below_setRow f.bl hg _⟩, hz.setRow _, ?_⟩
  rcases he with h | ⟨e1, e2, e6, e7, e8, e9⟩
  · exact .inl ⟨h.1, h.2.1⟩
  · have hown : ∀ i, s.b.ownBlock = some i → i ≠ g7 := fun i hi e => by
      have q1 := own_ge e9.body hi
      rcases h2s with q | ⟨_, _, _, _, _, q9⟩
      · rw [q.2.1] at hi
        simp [zS, Value.ownBlock] at hi
      · have q2 := own_ge q9.body hi
        omega
    refine .inr ⟨e1, ⟨e2.1, by rw [← mayB_same hs h1.symm h2.symm h3.symm]; exact e2.2.1, by have := e2.2.2.1; omega, by rw [← bdB_same hs]; exact e2.2.2.2⟩, e6, by rw [e7, bdB_same hs], by rw [e8, bdB_same hs], ?_⟩
    exact (⟨e9.head, own_kept e9.body k1 (fun i hi e => hown i hi e), e9.oct, e9.len⟩ : s.ok base (W.setRow g7 (stC s.h s.A s.n s.c))).rd
def R3o (w : World) (h : Hd) (b : BA) (age : Int) (g3 g4 : Nat) (e : Exit) (a : Act) (W : World) : Prop :=
  e = .normal ∧ ∃ (g7 : Nat) (s : SE) (k : Int) (u21 u22 u23 u24 u25 u26 u27 u28 u29 u30 : Value), a = ⟨List.toArray (h.v :: b.v :: (.int .u16 age) :: (.pointer (some ⟨g3, 0, none⟩)) :: (.pointer (some ⟨g4, 0, none⟩)) :: undef :: (.bool false) :: (.pointer (some ⟨g7, 0, none⟩)) :: (.int .i64 k) :: undef :: undef :: undef :: undef :: undef :: undef :: undef :: undef :: undef :: undef :: undef :: undef :: u21 :: u22 :: u23 :: u24 :: u25 :: u26 :: u27 :: u28 :: u29 :: u30 :: undef :: undef :: undef :: undef :: undef :: undef :: undef :: undef :: undef :: undef :: undef :: undef :: undef :: undef :: undef :: undef :: undef :: undef :: undef :: undef :: undef :: undef :: undef :: undef :: undef :: undef :: undef :: undef :: undef :: undef :: undef :: undef :: undef :: undef :: undef :: undef :: undef :: undef :: undef :: undef :: undef :: undef :: undef :: undef :: undef :: undef :: undef :: undef :: undef :: undef :: undef :: undef :: undef :: undef :: undef :: undef :: undef :: undef :: undef :: undef :: undef :: undef :: undef :: undef :: undef :: undef :: undef :: undef :: undef :: undef :: undef :: undef :: undef :: undef :: undef :: undef :: undef :: undef :: undef :: undef :: undef :: undef :: undef :: undef :: undef :: undef :: undef :: undef :: undef :: undef :: undef :: undef :: undef :: undef :: undef :: undef :: undef :: undef :: undef :: undef :: undef :: undef :: undef :: undef :: undef :: undef :: undef :: undef :: undef :: undef :: undef :: undef :: undef :: undef :: undef :: undef :: undef :: undef :: undef :: undef :: undef :: undef :: undef :: undef :: undef :: undef :: undef :: undef :: undef :: undef :: undef :: []), []⟩ ∧ Hid (RdW w W g3 g4 h b ∧ Blk W g7 34 (stC s.h s.A s.n s.c) ∧ EncW h b s k W)
/-- What stands while StateRound goes on. -/
structure RsW (w W : World) (g3 g4 g7 : Nat) (h : Hd) (b : BA) (sh : Hd) (A : Option Addr) (n c : Nat) (B : List Int) : Prop where
  f : RdW w W g3 g4 h b
  x : Blk W g7 34 (stC sh A n c)
  r : SE.rd W ⟨sh, A, n, c, B⟩
theorem RsW.later {w W W' : World} {g3 g4 g7 : Nat} {h : Hd} {b : BA} {sh : Hd} {A : Option Addr} {n c : Nat} {B : List Int} (f : RsW w W g3 g4 g7 h b sh A n c B) (hb : Below W.heap.size W W') : RsW w W' g3 g4 g7 h b sh A n c B := ⟨f.f.later hb, f.x.later hb, f.r.later hb⟩
theorem hd_zero (W : World) : (Op.equalIn 10000 25 (.agg #[.int .u16 0, .int .u8 0, .int .u8 0, .int .u32 0, .int .u32 0, .int .i32 0, .int .u16 0, .int .u16 0]) (.agg #[.int .u16 0, .int .u8 0, .int .u8 0, .int .u32 0, .int .u32 0, .int .i32 0, .int .u16 0, .int .u16 0])).run Try.prog W = .ok true W := hd_eq ⟨0, 0, 0, 0, 0, 0, 0, 0⟩ ⟨0, 0, 0, 0, 0, 0, 0, 0⟩ W
theorem eqB_same {a b : BA} (h : SameB a b) : eqB b a = true := by
  unfold eqB
  rw [h.flags, h.links, h.mask, h.routers, h.metric, h.t2, h.fwd, h.tag, h.data]
  simp
theorem eqS_same {s t : SE} (h : s.h = t.h) (hB : s.B = t.B) : eqS s t = true := by
  unfold eqS
  rw [h, hB, (eqHd_iff _ _).2 rfl]
  simp
theorem u16_and15 (x : Int) (h0 : 0 ≤ x) (h1 : x ≤ 65535) : bits .and .u16 x 32767 = x % 32768 := by
  rw [u16_and _ _ (by omega) (by omega) (by omega) (by omega)]
  obtain ⟨a, rfl⟩ := Int.eq_ofNat_of_zero_le h0
  have e : ((32767 : Int)).toNat = 2 ^ 15 - 1 := by omega
  rw [e, Int.toNat_natCast, Nat.and_two_pow_sub_one_eq_mod]
  omega
theorem own_lt {base : Nat} {w : World} {s : SE} (h : s.ok base w) : ∀ ad, s.A = some ad → ad.block ≠ w.heap.size := by
  intro ad e
  have := (own_ge h.body (i := ad.block) (by rw [show s.b = .slice s.A s.n s.c from rfl, e]; rfl)).2
  omega
theorem below_put (w : World) (o : Obj) (i : Nat) (u : Value) : Below w.heap.size w ((w.alloc o).setCell ⟨w.heap.size, i, none⟩ u) := ((Below.refl _ _).alloc (Nat.le_refl _) o).setCell (p := ⟨w.heap.size, i, none⟩) (Nat.le_refl _) u
set_option maxRecDepth 100000 in
set_option maxHeartbeats 16000000 in
theorem stateRound_walk (h : Hd) (b : BA) (age : Int) (w : World) (hok : h.ok) (hb : BArg w b) (h0 : 0 ≤ age) (h1 : age ≤ 65535) : Calls Try.prog 3 #[h.v, b.v, .int .u16 age] w fun e w' => e = .returned (.bool true) ∧ Below w.heap.size w w' := by
  have HBl : Hid (Below w.heap.size w ((w.alloc (.cells #[.int .u16 h.age, .int .u8 h.opts, .int .u8 h.typ, .int .u32 h.id, .int .u32 h.adv, .int .i32 h.seq, .int .u16 h.sum, .int .u16 h.len] 25)).alloc (.cells #[.int .u8 b.flags, .slice b.LA b.ln b.lc, .int .u32 b.mask, .slice b.RA b.rn b.rc, .int .u32 b.metric, .bool b.t2, .int .u32 b.fwd, .int .u32 b.tag, .slice b.DA b.dn b.dc] 30))) := below_two _ _ _
  have HX3 : Hid (HdBlk ((w.alloc (.cells #[.int .u16 h.age, .int .u8 h.opts, .int .u8 h.typ, .int .u32 h.id, .int .u32 h.adv, .int .i32 h.seq, .int .u16 h.sum, .int .u16 h.len] 25)).alloc (.cells #[.int .u8 b.flags, .slice b.LA b.ln b.lc, .int .u32 b.mask, .slice b.RA b.rn b.rc, .int .u32 b.metric, .bool b.t2, .int .u32 b.fwd, .int .u32 b.tag, .slice b.DA b.dn b.dc] 30)) w.heap.size h) := Lib.hid (show Blk _ _ _ _ from (Blk.new _ _ _).alloc _)
  have HX4 : Hid (BBlk ((w.alloc (.cells #[.int .u16 h.age, .int .u8 h.opts, .int .u8 h.typ, .int .u32 h.id, .int .u32 h.adv, .int .i32 h.seq, .int .u16 h.sum, .int .u16 h.len] 25)).alloc (.cells #[.int .u8 b.flags, .slice b.LA b.ln b.lc, .int .u32 b.mask, .slice b.RA b.rn b.rc, .int .u32 b.metric, .bool b.t2, .int .u32 b.fwd, .int .u32 b.tag, .slice b.DA b.dn b.dc] 30)) (w.heap.size + 1) b) := Lib.hid (show Blk _ _ _ _ from new_at _ _ _)
  have HB := Lib.hid hb
  have HOk := Lib.hid hok
  clear hb hok
  go_enter Try.func3, Try.ntmps3
  obtain ⟨c0, c1, c2, c3, c4, c5, c6, c7, c8⟩ := body_facts HX4.out
  go_wp2_with fail
  clear c0 c1 c2 c3 c4 c5 c6 c7 c8
  generalize hg3 : w.heap.size = g3 at *
  generalize hg4 : g3 + 1 = g4 at *
  have HG := Lib.hid (And.intro hg3 hg4)
  clear hg3 hg4
  generalize (w.alloc (.cells #[.int .u16 h.age, .int .u8 h.opts, .int .u8 h.typ, .int .u32 h.id, .int .u32 h.adv, .int .i32 h.seq, .int .u16 h.sum, .int .u16 h.len] 25)).alloc (.cells #[.int .u8 b.flags, .slice b.LA b.ln b.lc, .int .u32 b.mask, .slice b.RA b.rn b.rc, .int .u32 b.metric, .bool b.t2, .int .u32 b.fwd, .int .u32 b.tag, .slice b.DA b.dn b.dc] 30) = w1 at *
  have HB1 : Hid (Below w.heap.size w w1) := by rw [HG.out.1]; exact HBl
  clear HBl
  refine (heavy_any b w1).mono ?_
  rintro e w2 ⟨rfl, hb2⟩
  have HF : Hid (RdW w w2 g3 g4 h b) := Lib.hid ⟨Blk.later HX3.out hb2, Blk.later HX4.out hb2, below_then HB1.out hb2⟩
  clear hb2 HX3 HX4 HB1
  cases hv : heavyB b with
  | true =>
    go_wp2_with fail
    refine (lives_any _).mono ?_
    rintro e wl ⟨rfl, hbl⟩
    go_wp2_with fail
    go_ret
    exact ⟨rfl, below_then HF.out.bl hbl⟩
  | false =>
    have hfew : b.ln ≤ 8192 ∧ b.rn ≤ 32768 ∧ b.dn ≤ 131072 := by
      unfold heavyB at hv
      simp at hv
      omega
    have HBr : Hid (b.rd w) := Lib.hid (HB.out.rd (by omega))
    clear hfew hv
    go_wp2_with fail
    refine Code.wp_mono (Q := R3o w h b age g3 g4) ?_ ?_
    · rintro e a w3 ⟨rfl, g7, s, k, u21, u22, u23, u24, u25, u26, u27, u28, u29, u30, rfl, hall⟩
      go_simp
      rcases hall.out.2.2 with ⟨hk, rfl⟩ | ⟨rfl, hok2, hsl, hB, hN, hrd⟩
      · have hx : Blk w3 g7 34 zC := hall.out.2.1
        have y0 : w3.cell? ⟨g7, 0, none⟩ = some (.int .u16 0) := hx.cell 0
        have y1 : w3.cell? ⟨g7, 1, none⟩ = some (.int .u8 0) := hx.cell 1
        have y2 : w3.cell? ⟨g7, 2, none⟩ = some (.int .u8 0) := hx.cell 2
        have y3 : w3.cell? ⟨g7, 3, none⟩ = some (.int .u32 0) := hx.cell 3
        have y4 : w3.cell? ⟨g7, 4, none⟩ = some (.int .u32 0) := hx.cell 4
        have y5 : w3.cell? ⟨g7, 5, none⟩ = some (.int .i32 0) := hx.cell 5
        have y6 : w3.cell? ⟨g7, 6, none⟩ = some (.int .u16 0) := hx.cell 6
        have y7 : w3.cell? ⟨g7, 7, none⟩ = some (.int .u16 0) := hx.cell 7
        have y8 : w3.cell? ⟨g7, 8, none⟩ = some (.slice none 0 0) := hx.cell 8
        have hkn : (k != 0) = true := by simpa using hk
        have hz0 := hd_zero
        clear hx hk
        go_wp2_with fail
        refine (lives_any _).mono ?_
        rintro e wl ⟨rfl, hbl⟩
        go_wp2_with fail
        go_ret
        exact ⟨rfl, below_then hall.out.1.bl hbl⟩
      · obtain ⟨sh, A, n, c, B⟩ := s
        have HR : Hid (RsW w w3 g3 g4 g7 h b sh A n c B) := Lib.hid ⟨hall.out.1, hall.out.2.1, hrd⟩
        have HSl := Lib.hid hsl
        have HOk2 := Lib.hid hok2
        have HBN : Hid (B = bdB h.typ b ∧ n = (bdB h.typ b).length) := Lib.hid ⟨hB, hN⟩
        have HTyp : Hid (sh.typ = h.typ) := Lib.hid (by have q : sh = sealH h (20 + (n : Int)) B := hsl.h; rw [q])
        have hn : n ≤ 65515 := by have := hok2.2.2.2; dsimp only at hN; omega
        have HGood : Hid (goodB sh.typ B) := Lib.hid (by rw [HTyp.out, HBN.out.1]; exact good_bdB hok2.1 HBr.out (fun _ => hok2.2.2.1) hok2.2.1)
        have HKn : Hid (Kn sh.typ) := Lib.hid (by rw [HTyp.out]; exact hok2.1)
        have hlen : sh.len = 20 + (n : Int) := hsl.len
        have HLen := Lib.hid hlen
        have hw20 : IntKind.i64.wrap (20 + (n : Int)) = 20 + n := by rw [IntKind.wrap_i64]; omega
        have hw20b : IntKind.i64.wrap ((n : Int) + 20) = n + 20 := by rw [IntKind.wrap_i64]; omega
        have hwl : IntKind.i64.wrap sh.len = sh.len := by rw [IntKind.wrap_i64]; omega
        have hl1 : (sh.len != 20 + (n : Int)) = false := by simpa using hlen
        have hs1 : (sh.sum == 0) = false := by simpa using hsl.sum
        clear hlen hsl hok2 hB hN hrd hall HF
        obtain ⟨y0, y1, y2, y3, y4, y5, y6, y7, y8⟩ := stC_facts HR.out.x
        go_wp2_with fail
        clear y0 y1 y2 y3 y4 y5 y6 y7 y8
        refine (copyState_any ⟨sh, A, n, c, B⟩ w3 HR.out.r).mono ?_
        rintro e w4 ⟨⟨h', A1, n', A1c, B'⟩, rfl, ⟨e1, e2, e3, hcop⟩, hb⟩
        obtain rfl : sh = h' := e1.symm
        obtain rfl : B = B' := e2.symm
        obtain rfl : n = n' := e3.symm
        have HC := Lib.hid hcop.rd
        have HBase := Lib.hid hcop
        replace HR := Lib.hid (HR.out.later hb)
        clear e1 e2 e3 hcop hb HBase
        go_wp2_with fail
        refine (decode_any ⟨sh, A1, n, A1c, B⟩ w4 HC.out (by show n ≤ 1073741824; omega)).mono ?_
        rintro e w5 ⟨cb, k2, rfl, hd, hcb, -, hb⟩
        have hkm : k2 = 0 ∧ SameB b cb := by
          rcases hd with ⟨q1, _⟩ | ⟨_, q1, _⟩ | ⟨_, _, q1, _⟩ | ⟨_, _, _, q1, q2⟩
          · exact absurd HLen.out q1
          · exact absurd HKn.out q1
          · exact absurd HGood.out q1
          · replace q2 : Says sh.typ B cb := q2
            rw [HTyp.out, HBN.out.1] at q2
            exact ⟨q1, says_same (says_any h.typ HOk2.out.1 b HBr.out (fun _ => HOk2.out.2.2.1) HOk2.out.2.1).2 q2⟩
        obtain ⟨rfl, hsame⟩ := hkm
        have HSame := Lib.hid hsame
        have HCb := Lib.hid hcb
        replace HR := Lib.hid (HR.out.later hb)
        clear hd hcb hsame hb HC
        have hb2 : Below w5.heap.size w5 (w5.alloc (.cells #[.int .u8 cb.flags, .slice cb.LA cb.ln cb.lc, .int .u32 cb.mask, .slice cb.RA cb.rn cb.rc, .int .u32 cb.metric, .bool cb.t2, .int .u32 cb.fwd, .int .u32 cb.tag, .slice cb.DA cb.dn cb.dc] 30)) := (Below.refl _ _).alloc (Nat.le_refl _) _
        have HX9 : Hid (BBlk (w5.alloc (.cells #[.int .u8 cb.flags, .slice cb.LA cb.ln cb.lc, .int .u32 cb.mask, .slice cb.RA cb.rn cb.rc, .int .u32 cb.metric, .bool cb.t2, .int .u32 cb.fwd, .int .u32 cb.tag, .slice cb.DA cb.dn cb.dc] 30)) w5.heap.size cb) := Lib.hid (show Blk _ _ _ _ from Blk.new _ _ _)
        replace HR := Lib.hid (HR.out.later hb2)
        replace HCb := Lib.hid (HCb.out.later hb2)
        clear hb2
        obtain ⟨c0, c1, c2, c3, c4, c5, c6, c7, c8⟩ := body_facts HX9.out
        obtain ⟨d0, d1, d2, d3, d4, d5, d6, d7, d8⟩ := body_facts HR.out.f.x4
        go_wp2_with fail
        clear c0 c1 c2 c3 c4 c5 c6 c7 c8 d0 d1 d2 d3 d4 d5 d6 d7 d8
        generalize w5.heap.size = g9 at *
        generalize w5.alloc (.cells #[.int .u8 cb.flags, .slice cb.LA cb.ln cb.lc, .int .u32 cb.mask, .slice cb.RA cb.rn cb.rc, .int .u32 cb.metric, .bool cb.t2, .int .u32 cb.fwd, .int .u32 cb.tag, .slice cb.DA cb.dn cb.dc] 30) = w6 at *
        refine (eqBody_any cb b w6 HCb.out (HBr.out.later HR.out.f.bl)).mono ?_
        rintro e w7 ⟨rfl, hb⟩
        rw [eqB_same HSame.out]
        replace HR := Lib.hid (HR.out.later hb)
        replace HCb := Lib.hid (HCb.out.later hb)
        replace HX9 : Hid (BBlk w7 g9 cb) := Lib.hid (Blk.later HX9.out hb)
        clear hb
        obtain ⟨c0, c1, c2, c3, c4, c5, c6, c7, c8⟩ := body_facts HX9.out
        obtain ⟨y0, y1, y2, y3, y4, y5, y6, y7, y8⟩ := stC_facts HR.out.x
        go_wp2_with fail
        clear y0 y1 y2 y3 y4 y5 y6 y7 y8
        clear c0 c1 c2 c3 c4 c5 c6 c7 c8 HX9
        refine (encode_any w7 sh HR.out.r.head cb HCb.out).mono ?_
        rintro e w8 ⟨⟨h2, A2, n2, c2, B2⟩, k2, rfl, he, hb⟩
        have hkm : k2 = 0 ∧ h2 = sh ∧ B2 = B ∧ SE.rd w8 ⟨h2, A2, n2, c2, B2⟩ := by
          have hcok : EncOk sh cb := by
            have s1 := HSame.out
            have e1 := HBr.out.llen
            have e2 := HBr.out.rlen
            have e3 := HBr.out.drow.u8len
            have f1 := HCb.out.llen
            have f2 := HCb.out.rlen
            have f3 := HCb.out.drow.u8len
            rw [s1.links] at f1
            rw [s1.routers] at f2
            rw [s1.data] at f3
            refine ⟨HKn.out, ?_, ?_, ?_⟩
            · rw [HTyp.out, mayB_same s1 (by omega) (by omega) (by omega)]; exact HOk2.out.2.1
            · have := HOk2.out.2.2.1; omega
            · rw [HTyp.out, bdB_same s1]; exact HOk2.out.2.2.2
          rcases he with ⟨_, _, q⟩ | ⟨q1, _, q3, q4, q5, q6⟩
          · exact absurd hcok q
          · replace q4 : B2 = bdB sh.typ cb := q4
            replace q5 : n2 = (bdB sh.typ cb).length := q5
            have q4' : B2 = B := by rw [q4, HTyp.out, bdB_same HSame.out, HBN.out.1]
            have q5' : n2 = n := by rw [q5, HTyp.out, bdB_same HSame.out, HBN.out.2]
            refine ⟨q1, ?_, q4', q6.rd⟩
            have q7 : h2 = sealH sh (20 + (n2 : Int)) B2 := q3.h
            have q8 : sh = sealH h (20 + (n : Int)) B := HSl.out.h
            rw [q7, q4', q5', q8]
            exact seal_again h _ B
        obtain ⟨rfl, hh2, hB2, hrd2⟩ := hkm
        have HE2 := Lib.hid (And.intro hh2 hB2)
        have HRd2 := Lib.hid hrd2
        replace HR := Lib.hid (HR.out.later hb)
        clear he hb hh2 hB2 hrd2 HCb
        have hb2 : Below w8.heap.size w8 (w8.alloc (.cells #[.int .u16 h2.age, .int .u8 h2.opts, .int .u8 h2.typ, .int .u32 h2.id, .int .u32 h2.adv, .int .i32 h2.seq, .int .u16 h2.sum, .int .u16 h2.len, .slice A2 n2 c2] 34)) := (Below.refl _ _).alloc (Nat.le_refl _) _
        have HX11 : Hid (Blk (w8.alloc (.cells #[.int .u16 h2.age, .int .u8 h2.opts, .int .u8 h2.typ, .int .u32 h2.id, .int .u32 h2.adv, .int .i32 h2.seq, .int .u16 h2.sum, .int .u16 h2.len, .slice A2 n2 c2] 34)) w8.heap.size 34 (stC h2 A2 n2 c2)) := Lib.hid (show Blk _ _ _ _ from Blk.new _ _ _)
        replace HR := Lib.hid (HR.out.later hb2)
        replace HRd2 := Lib.hid (HRd2.out.later hb2)
        clear hb2
        obtain ⟨y0, y1, y2, y3, y4, y5, y6, y7, y8⟩ := stC_facts HR.out.x
        go_wp2_with fail
        clear y0 y1 y2 y3 y4 y5 y6 y7 y8
        generalize w8.heap.size = g11 at *
        generalize w8.alloc (.cells #[.int .u16 h2.age, .int .u8 h2.opts, .int .u8 h2.typ, .int .u32 h2.id, .int .u32 h2.adv, .int .i32 h2.seq, .int .u16 h2.sum, .int .u16 h2.len, .slice A2 n2 c2] 34) = w9 at *
        refine (copyState_any ⟨sh, A, n, c, B⟩ w9 HR.out.r).mono ?_
        rintro e w10 ⟨⟨h', A3, n', A3c, B'⟩, rfl, ⟨e1, e2, e3, hcop⟩, hb⟩
        obtain rfl : sh = h' := e1.symm
        obtain rfl : B = B' := e2.symm
        obtain rfl : n = n' := e3.symm
        have HC := Lib.hid hcop.rd
        have HBase := Lib.hid hcop
        replace HR := Lib.hid (HR.out.later hb)
        replace HRd2 := Lib.hid (HRd2.out.later hb)
        replace HX11 := Lib.hid (HX11.out.later hb)
        clear e1 e2 e3 hcop hb HBase
        go_wp2_with fail
        refine (seal_yes ⟨sh, A3, n, A3c, B⟩ w10 HC.out (by show n ≤ 65515; omega)).mono ?_
        rintro e w11 ⟨⟨h3, A4, n3, c3, B3⟩, rfl, ⟨e1, e2, e3, hcop⟩, hb⟩
        have HE3 : Hid (h3 = sh ∧ B3 = B) := Lib.hid (by
          replace e1 : h3 = sealH sh (20 + (n : Int)) B := e1
          have q8 : sh = sealH h (20 + (n : Int)) B := HSl.out.h
          refine ⟨?_, e2⟩
          rw [e1, q8]
          exact seal_again h _ B)
        have HRd3 := Lib.hid hcop.rd
        replace HR := Lib.hid (HR.out.later hb)
        replace HRd2 := Lib.hid (HRd2.out.later hb)
        replace HX11 := Lib.hid (HX11.out.later hb)
        clear e1 e2 e3 hcop hb HC
        have hb2 : Below w11.heap.size w11 (w11.alloc (.cells #[.int .u16 h3.age, .int .u8 h3.opts, .int .u8 h3.typ, .int .u32 h3.id, .int .u32 h3.adv, .int .i32 h3.seq, .int .u16 h3.sum, .int .u16 h3.len, .slice A4 n3 c3] 34)) := (Below.refl _ _).alloc (Nat.le_refl _) _
        have HX13 : Hid (Blk (w11.alloc (.cells #[.int .u16 h3.age, .int .u8 h3.opts, .int .u8 h3.typ, .int .u32 h3.id, .int .u32 h3.adv, .int .i32 h3.seq, .int .u16 h3.sum, .int .u16 h3.len, .slice A4 n3 c3] 34)) w11.heap.size 34 (stC h3 A4 n3 c3)) := Lib.hid (show Blk _ _ _ _ from Blk.new _ _ _)
        replace HR := Lib.hid (HR.out.later hb2)
        replace HRd2 := Lib.hid (HRd2.out.later hb2)
        replace HRd3 := Lib.hid (HRd3.out.later hb2)
        replace HX11 := Lib.hid (HX11.out.later hb2)
        clear hb2
        obtain ⟨y0, y1, y2, y3, y4, y5, y6, y7, y8⟩ := stC_facts HR.out.x
        obtain ⟨z0, z1, z2, z3, z4, z5, z6, z7, z8⟩ := stC_facts HX11.out
        go_wp2_with fail
        clear y0 y1 y2 y3 y4 y5 y6 y7 y8
        clear z0 z1 z2 z3 z4 z5 z6 z7 z8
        generalize w11.heap.size = g13 at *
        generalize w11.alloc (.cells #[.int .u16 h3.age, .int .u8 h3.opts, .int .u8 h3.typ, .int .u32 h3.id, .int .u32 h3.adv, .int .i32 h3.seq, .int .u16 h3.sum, .int .u16 h3.len, .slice A4 n3 c3] 34) = w12 at *
        refine (eqState_any ⟨h2, A2, n2, c2, B2⟩ ⟨sh, A, n, c, B⟩ w12 HRd2.out HR.out.r).mono ?_
        rintro e w13 ⟨rfl, hb⟩
        rw [eqS_same (s := ⟨h2, A2, n2, c2, B2⟩) (t := ⟨sh, A, n, c, B⟩) HE2.out.1 HE2.out.2]
        replace HR := Lib.hid (HR.out.later hb)
        replace HRd3 := Lib.hid (HRd3.out.later hb)
        replace HX13 := Lib.hid (HX13.out.later hb)
        clear hb HRd2 HX11 HE2
        obtain ⟨y0, y1, y2, y3, y4, y5, y6, y7, y8⟩ := stC_facts HR.out.x
        obtain ⟨z0, z1, z2, z3, z4, z5, z6, z7, z8⟩ := stC_facts HX13.out
        go_wp2_with fail
        clear y0 y1 y2 y3 y4 y5 y6 y7 y8
        clear z0 z1 z2 z3 z4 z5 z6 z7 z8
        refine (eqState_any ⟨h3, A4, n3, c3, B3⟩ ⟨sh, A, n, c, B⟩ w13 HRd3.out HR.out.r).mono ?_
        rintro e w14 ⟨rfl, hb⟩
        rw [eqS_same (s := ⟨h3, A4, n3, c3, B3⟩) (t := ⟨sh, A, n, c, B⟩) HE3.out.1 HE3.out.2]
        replace HR := Lib.hid (HR.out.later hb)
        clear hb HRd3 HX13 HE3
        obtain ⟨x0, x1, x2, x3, x4, x5, x6, x7⟩ := HR.out.f.x3.cells
        obtain ⟨mq, hmq⟩ : ∃ mq, (h.seq != -2147483648) = mq := ⟨_, rfl⟩
        have HMq := Lib.hid hmq
        obtain ⟨y0, y1, y2, y3, y4, y5, y6, y7, y8⟩ := stC_facts HR.out.x
        go_wp2_with fail
        clear y0 y1 y2 y3 y4 y5 y6 y7 y8
        clear x0 x1 x2 x3 x4 x5 x6 x7 hmq
        refine (copyState_any ⟨sh, A, n, c, B⟩ w14 HR.out.r).mono ?_
        rintro e w15 ⟨⟨h', A5, n', A5c, B'⟩, rfl, ⟨e1, e2, e3, hcop⟩, hb⟩
        obtain rfl : sh = h' := e1.symm
        obtain rfl : B = B' := e2.symm
        obtain rfl : n = n' := e3.symm
        have HC := Lib.hid hcop.rd
        have HBase := Lib.hid hcop
        replace HR := Lib.hid (HR.out.later hb)
        clear e1 e2 e3 hcop hb HC
        have hb2 : Below w15.heap.size w15 (w15.alloc (.cells #[.int .u16 age, .int .u8 sh.opts, .int .u8 sh.typ, .int .u32 sh.id, .int .u32 sh.adv, .int .i32 sh.seq, .int .u16 sh.sum, .int .u16 sh.len, .slice A5 n A5c] 34)) := (Below.refl _ _).alloc (Nat.le_refl _) _
        have HX16 : Hid (Blk (w15.alloc (.cells #[.int .u16 age, .int .u8 sh.opts, .int .u8 sh.typ, .int .u32 sh.id, .int .u32 sh.adv, .int .i32 sh.seq, .int .u16 sh.sum, .int .u16 sh.len, .slice A5 n A5c] 34)) w15.heap.size 34 (stC ⟨age, sh.opts, sh.typ, sh.id, sh.adv, sh.seq, sh.sum, sh.len⟩ A5 n A5c)) := Lib.hid (Blk.new _ _ _)
        replace HR := Lib.hid (HR.out.later hb2)
        have HRo : Hid (SE.rd (w15.alloc (.cells #[.int .u16 age, .int .u8 sh.opts, .int .u8 sh.typ, .int .u32 sh.id, .int .u32 sh.adv, .int .i32 sh.seq, .int .u16 sh.sum, .int .u16 sh.len, .slice A5 n A5c] 34)) ⟨⟨age, sh.opts, sh.typ, sh.id, sh.adv, sh.seq, sh.sum, sh.len⟩, A5, n, A5c, B⟩) := Lib.hid (by
          have q := HBase.out.rd.later hb2
          exact ⟨⟨⟨h0, h1⟩, q.head.opts, q.head.typ, q.head.id, q.head.adv, q.head.seq, q.head.sum, q.head.len⟩, q.body, q.oct, q.cap, q.len⟩)
        obtain ⟨z0, z1, z2, z3, z4, z5, z6, z7, z8⟩ := stC_facts HX16.out
        clear hb2 HBase
        go_wp2_with fail
        clear z0 z1 z2 z3 z4 z5 z6 z7 z8
        clear HX16
        generalize w15.heap.size = g16 at *
        generalize w15.alloc (.cells #[.int .u16 age, .int .u8 sh.opts, .int .u8 sh.typ, .int .u32 sh.id, .int .u32 sh.adv, .int .i32 sh.seq, .int .u16 sh.sum, .int .u16 sh.len, .slice A5 n A5c] 34) = w16 at *
        refine (check_any ⟨⟨age, sh.opts, sh.typ, sh.id, sh.adv, sh.seq, sh.sum, sh.len⟩, A5, n, A5c, B⟩ w16 HRo.out (by show n ≤ 1073741824; omega)).mono ?_
        rintro e w17 ⟨j, rfl, hj, hb⟩
        replace HR := Lib.hid (HR.out.later hb)
        have hand := u16_and15 age h0 h1
        have HJ : Hid (((sh.seq = -2147483648 ∨ 3600 < age % 32768) ∧ j = 24) ∨ (¬ (sh.seq = -2147483648 ∨ 3600 < age % 32768) ∧ j = 0)) := Lib.hid (by
          have hwh : WholeS ⟨⟨age, sh.opts, sh.typ, sh.id, sh.adv, sh.seq, sh.sum, sh.len⟩, A5, n, A5c, B⟩ := by
            have q8 : sh = sealH h (20 + (n : Int)) B := HSl.out.h
            have := seal_whole h (20 + (n : Int)) B age
            unfold WholeS stB
            rw [q8]
            exact this
          rcases hj with ⟨q1, _⟩ | ⟨_, q1, _⟩ | ⟨_, _, _, q1⟩
          · exact absurd HLen.out q1
          · rcases q1 with q1 | q1
            · exact absurd q1 HSl.out.sum
            · exact absurd hwh q1
          · rcases q1 with ⟨q1, _⟩ | ⟨_, q1⟩
            · exact absurd HKn.out q1
            · rcases q1 with ⟨q1, q2⟩ | ⟨q1, q2⟩
              · exact .inl ⟨q1, q2⟩
              · rcases q2 with ⟨_, q2⟩ | ⟨q2, _⟩
                · exact .inr ⟨q1, q2⟩
                · exact absurd HGood.out q2)
        have HSeq : Hid (sh.seq = h.seq) := Lib.hid (by have q : sh = sealH h (20 + (n : Int)) B := HSl.out.h; rw [q])
        clear hj hb HRo
        have hcase : (mq = false ∧ j = 24) ∨ (mq = true ∧ decide (age % 32768 ≤ 3600) = false ∧ j = 24) ∨ (j = 0) := by
          rcases HJ.out with ⟨q1, q2⟩ | ⟨_, q2⟩
          · rcases q1 with q1 | q1
            · left
              refine ⟨?_, q2⟩
              rw [← HMq.out, ← HSeq.out, q1]
              rfl
            · cases mq with
              | false => exact .inl ⟨rfl, q2⟩
              | true => exact .inr (.inl ⟨rfl, decide_eq_false (by omega), q2⟩)
          · exact .inr (.inr q2)
        clear HJ
        rcases hcase with ⟨rfl, rfl⟩ | ⟨rfl, hle, rfl⟩ | rfl
        · obtain ⟨y0, y1, y2, y3, y4, y5, y6, y7, y8⟩ := stC_facts HR.out.x
          go_wp2_with fail
          clear y0 y1 y2 y3 y4 y5 y6 y7 y8
          refine (copyState_any ⟨sh, A, n, c, B⟩ w17 HR.out.r).mono ?_
          rintro e w18 ⟨⟨h', A6, n', A6c, B'⟩, rfl, ⟨e1, e2, e3, hcop⟩, hb⟩
          obtain rfl : sh = h' := e1.symm
          obtain rfl : B = B' := e2.symm
          obtain rfl : n = n' := e3.symm
          have HC := Lib.hid hcop.rd
          have HBase := Lib.hid hcop
          replace HR := Lib.hid (HR.out.later hb)
          clear e1 e2 e3 hcop hb HBase
          go_wp2_with fail
          refine (bytes_any ⟨sh, A6, n, A6c, B⟩ w18 HC.out (by show n ≤ 1073741824; omega)).mono ?_
          rintro e w19 ⟨u, rfl, hu, hb⟩
          replace hu : w19.ownsRow w18.heap.size 5 1 u (20 + n) (u8s (hdB sh ++ B)) := hu
          obtain ⟨A7, c7, rfl, hc7, hm7, hr7⟩ := own_shape hu
          have HOc : Hid (Oct (hdB sh ++ B)) := Lib.hid (Oct.append (hdB_oct HC.out.head) HC.out.oct)
          have HF := Lib.hid (read_first (h := sh) (B := B) HC.out.head [] (by have h1 := HLen.out; have h2 : B.length = n := HC.out.bl; omega))
          rw [List.append_nil] at HF
          have H7 := Lib.hid (And.intro hr7 (And.intro hc7 hm7))
          replace HR := Lib.hid (HR.out.later hb)
          clear hu hr7 hc7 hm7 hb HC
          go_wp2_with fail
          refine (read_yes A7 (20 + n) c7 (hdB sh ++ B) w19 H7.out.1 HOc.out H7.out.2.1 H7.out.2.2 (by omega) HF.out.1).mono ?_
          rintro e w20 ⟨⟨h8, A8, n8, c8, B8⟩, rfl, ⟨e1, e2, e3, hcop⟩, hb⟩
          have HE8 : Hid (h8 = sh ∧ B8 = B) := Lib.hid ⟨e1.trans HF.out.2.1, e2.trans (by rw [HF.out.2.1]; exact HF.out.2.2)⟩
          rw [show (hdAt (hdB sh ++ B) 0).len = 20 + (n : Int) by rw [HF.out.2.1, HLen.out]]
          have HRd8 := Lib.hid hcop.rd
          replace HR := Lib.hid (HR.out.later hb)
          clear e1 e2 e3 hcop hb HF HOc H7
          have hb2 : Below w20.heap.size w20 (w20.alloc (.cells #[.int .u16 h8.age, .int .u8 h8.opts, .int .u8 h8.typ, .int .u32 h8.id, .int .u32 h8.adv, .int .i32 h8.seq, .int .u16 h8.sum, .int .u16 h8.len, .slice A8 n8 c8] 34)) := (Below.refl _ _).alloc (Nat.le_refl _) _
          have HX18 : Hid (Blk (w20.alloc (.cells #[.int .u16 h8.age, .int .u8 h8.opts, .int .u8 h8.typ, .int .u32 h8.id, .int .u32 h8.adv, .int .i32 h8.seq, .int .u16 h8.sum, .int .u16 h8.len, .slice A8 n8 c8] 34)) w20.heap.size 34 (stC h8 A8 n8 c8)) := Lib.hid (show Blk _ _ _ _ from Blk.new _ _ _)
          replace HR := Lib.hid (HR.out.later hb2)
          replace HRd8 := Lib.hid (HRd8.out.later hb2)
          clear hb2
          obtain ⟨y0, y1, y2, y3, y4, y5, y6, y7, y8⟩ := stC_facts HR.out.x
          obtain ⟨z0, z1, z2, z3, z4, z5, z6, z7, z8⟩ := stC_facts HX18.out
          have hn20 : (20 + (n : Int) == (n : Int) + 20) = true := by simp; omega
          go_wp2_with fail
          clear y0 y1 y2 y3 y4 y5 y6 y7 y8
          clear z0 z1 z2 z3 z4 z5 z6 z7 z8
          generalize w20.heap.size = g18 at *
          generalize w20.alloc (.cells #[.int .u16 h8.age, .int .u8 h8.opts, .int .u8 h8.typ, .int .u32 h8.id, .int .u32 h8.adv, .int .i32 h8.seq, .int .u16 h8.sum, .int .u16 h8.len, .slice A8 n8 c8] 34) = w21 at *
          refine (eqState_any ⟨h8, A8, n8, c8, B8⟩ ⟨sh, A, n, c, B⟩ w21 HRd8.out HR.out.r).mono ?_
          rintro e w22 ⟨rfl, hb⟩
          rw [eqS_same (s := ⟨h8, A8, n8, c8, B8⟩) (t := ⟨sh, A, n, c, B⟩) HE8.out.1 HE8.out.2]
          replace HR := Lib.hid (HR.out.later hb)
          clear hb
          go_wp2_with fail
          refine (lives_any _).mono ?_
          rintro e wl ⟨rfl, hbl⟩
          go_wp2_with fail
          go_ret
          exact ⟨rfl, below_then HR.out.f.bl hbl⟩
        · obtain ⟨y0, y1, y2, y3, y4, y5, y6, y7, y8⟩ := stC_facts HR.out.x
          go_wp2_with fail
          clear y0 y1 y2 y3 y4 y5 y6 y7 y8
          refine (copyState_any ⟨sh, A, n, c, B⟩ w17 HR.out.r).mono ?_
          rintro e w18 ⟨⟨h', A6, n', A6c, B'⟩, rfl, ⟨e1, e2, e3, hcop⟩, hb⟩
          obtain rfl : sh = h' := e1.symm
          obtain rfl : B = B' := e2.symm
          obtain rfl : n = n' := e3.symm
          have HC := Lib.hid hcop.rd
          have HBase := Lib.hid hcop
          replace HR := Lib.hid (HR.out.later hb)
          clear e1 e2 e3 hcop hb HBase
          go_wp2_with fail
          refine (bytes_any ⟨sh, A6, n, A6c, B⟩ w18 HC.out (by show n ≤ 1073741824; omega)).mono ?_
          rintro e w19 ⟨u, rfl, hu, hb⟩
          replace hu : w19.ownsRow w18.heap.size 5 1 u (20 + n) (u8s (hdB sh ++ B)) := hu
          obtain ⟨A7, c7, rfl, hc7, hm7, hr7⟩ := own_shape hu
          have HOc : Hid (Oct (hdB sh ++ B)) := Lib.hid (Oct.append (hdB_oct HC.out.head) HC.out.oct)
          have HF := Lib.hid (read_first (h := sh) (B := B) HC.out.head [] (by have h1 := HLen.out; have h2 : B.length = n := HC.out.bl; omega))
          rw [List.append_nil] at HF
          have H7 := Lib.hid (And.intro hr7 (And.intro hc7 hm7))
          replace HR := Lib.hid (HR.out.later hb)
          clear hu hr7 hc7 hm7 hb HC
          go_wp2_with fail
          refine (read_yes A7 (20 + n) c7 (hdB sh ++ B) w19 H7.out.1 HOc.out H7.out.2.1 H7.out.2.2 (by omega) HF.out.1).mono ?_
          rintro e w20 ⟨⟨h8, A8, n8, c8, B8⟩, rfl, ⟨e1, e2, e3, hcop⟩, hb⟩
          have HE8 : Hid (h8 = sh ∧ B8 = B) := Lib.hid ⟨e1.trans HF.out.2.1, e2.trans (by rw [HF.out.2.1]; exact HF.out.2.2)⟩
          rw [show (hdAt (hdB sh ++ B) 0).len = 20 + (n : Int) by rw [HF.out.2.1, HLen.out]]
          have HRd8 := Lib.hid hcop.rd
          replace HR := Lib.hid (HR.out.later hb)
          clear e1 e2 e3 hcop hb HF HOc H7
          have hb2 : Below w20.heap.size w20 (w20.alloc (.cells #[.int .u16 h8.age, .int .u8 h8.opts, .int .u8 h8.typ, .int .u32 h8.id, .int .u32 h8.adv, .int .i32 h8.seq, .int .u16 h8.sum, .int .u16 h8.len, .slice A8 n8 c8] 34)) := (Below.refl _ _).alloc (Nat.le_refl _) _
          have HX18 : Hid (Blk (w20.alloc (.cells #[.int .u16 h8.age, .int .u8 h8.opts, .int .u8 h8.typ, .int .u32 h8.id, .int .u32 h8.adv, .int .i32 h8.seq, .int .u16 h8.sum, .int .u16 h8.len, .slice A8 n8 c8] 34)) w20.heap.size 34 (stC h8 A8 n8 c8)) := Lib.hid (show Blk _ _ _ _ from Blk.new _ _ _)
          replace HR := Lib.hid (HR.out.later hb2)
          replace HRd8 := Lib.hid (HRd8.out.later hb2)
          clear hb2
          obtain ⟨y0, y1, y2, y3, y4, y5, y6, y7, y8⟩ := stC_facts HR.out.x
          obtain ⟨z0, z1, z2, z3, z4, z5, z6, z7, z8⟩ := stC_facts HX18.out
          have hn20 : (20 + (n : Int) == (n : Int) + 20) = true := by simp; omega
          go_wp2_with fail
          clear y0 y1 y2 y3 y4 y5 y6 y7 y8
          clear z0 z1 z2 z3 z4 z5 z6 z7 z8
          generalize w20.heap.size = g18 at *
          generalize w20.alloc (.cells #[.int .u16 h8.age, .int .u8 h8.opts, .int .u8 h8.typ, .int .u32 h8.id, .int .u32 h8.adv, .int .i32 h8.seq, .int .u16 h8.sum, .int .u16 h8.len, .slice A8 n8 c8] 34) = w21 at *
          refine (eqState_any ⟨h8, A8, n8, c8, B8⟩ ⟨sh, A, n, c, B⟩ w21 HRd8.out HR.out.r).mono ?_
          rintro e w22 ⟨rfl, hb⟩
          rw [eqS_same (s := ⟨h8, A8, n8, c8, B8⟩) (t := ⟨sh, A, n, c, B⟩) HE8.out.1 HE8.out.2]
          replace HR := Lib.hid (HR.out.later hb)
          clear hb
          go_wp2_with fail
          refine (lives_any _).mono ?_
          rintro e wl ⟨rfl, hbl⟩
          go_wp2_with fail
          go_ret
          exact ⟨rfl, below_then HR.out.f.bl hbl⟩
        · cases mq with
          | false =>
            obtain ⟨y0, y1, y2, y3, y4, y5, y6, y7, y8⟩ := stC_facts HR.out.x
            go_wp2_with fail
            clear y0 y1 y2 y3 y4 y5 y6 y7 y8
            refine (copyState_any ⟨sh, A, n, c, B⟩ w17 HR.out.r).mono ?_
            rintro e w18 ⟨⟨h', A6, n', A6c, B'⟩, rfl, ⟨e1, e2, e3, hcop⟩, hb⟩
            obtain rfl : sh = h' := e1.symm
            obtain rfl : B = B' := e2.symm
            obtain rfl : n = n' := e3.symm
            have HC := Lib.hid hcop.rd
            have HBase := Lib.hid hcop
            replace HR := Lib.hid (HR.out.later hb)
            clear e1 e2 e3 hcop hb HBase
            go_wp2_with fail
            refine (bytes_any ⟨sh, A6, n, A6c, B⟩ w18 HC.out (by show n ≤ 1073741824; omega)).mono ?_
            rintro e w19 ⟨u, rfl, hu, hb⟩
            replace hu : w19.ownsRow w18.heap.size 5 1 u (20 + n) (u8s (hdB sh ++ B)) := hu
            obtain ⟨A7, c7, rfl, hc7, hm7, hr7⟩ := own_shape hu
            have HOc : Hid (Oct (hdB sh ++ B)) := Lib.hid (Oct.append (hdB_oct HC.out.head) HC.out.oct)
            have HF := Lib.hid (read_first (h := sh) (B := B) HC.out.head [] (by have h1 := HLen.out; have h2 : B.length = n := HC.out.bl; omega))
            rw [List.append_nil] at HF
            have H7 := Lib.hid (And.intro hr7 (And.intro hc7 hm7))
            replace HR := Lib.hid (HR.out.later hb)
            clear hu hr7 hc7 hm7 hb HC
            go_wp2_with fail
            refine (read_yes A7 (20 + n) c7 (hdB sh ++ B) w19 H7.out.1 HOc.out H7.out.2.1 H7.out.2.2 (by omega) HF.out.1).mono ?_
            rintro e w20 ⟨⟨h8, A8, n8, c8, B8⟩, rfl, ⟨e1, e2, e3, hcop⟩, hb⟩
            have HE8 : Hid (h8 = sh ∧ B8 = B) := Lib.hid ⟨e1.trans HF.out.2.1, e2.trans (by rw [HF.out.2.1]; exact HF.out.2.2)⟩
            rw [show (hdAt (hdB sh ++ B) 0).len = 20 + (n : Int) by rw [HF.out.2.1, HLen.out]]
            have HRd8 := Lib.hid hcop.rd
            replace HR := Lib.hid (HR.out.later hb)
            clear e1 e2 e3 hcop hb HF HOc H7
            have hb2 : Below w20.heap.size w20 (w20.alloc (.cells #[.int .u16 h8.age, .int .u8 h8.opts, .int .u8 h8.typ, .int .u32 h8.id, .int .u32 h8.adv, .int .i32 h8.seq, .int .u16 h8.sum, .int .u16 h8.len, .slice A8 n8 c8] 34)) := (Below.refl _ _).alloc (Nat.le_refl _) _
            have HX18 : Hid (Blk (w20.alloc (.cells #[.int .u16 h8.age, .int .u8 h8.opts, .int .u8 h8.typ, .int .u32 h8.id, .int .u32 h8.adv, .int .i32 h8.seq, .int .u16 h8.sum, .int .u16 h8.len, .slice A8 n8 c8] 34)) w20.heap.size 34 (stC h8 A8 n8 c8)) := Lib.hid (show Blk _ _ _ _ from Blk.new _ _ _)
            replace HR := Lib.hid (HR.out.later hb2)
            replace HRd8 := Lib.hid (HRd8.out.later hb2)
            clear hb2
            obtain ⟨y0, y1, y2, y3, y4, y5, y6, y7, y8⟩ := stC_facts HR.out.x
            obtain ⟨z0, z1, z2, z3, z4, z5, z6, z7, z8⟩ := stC_facts HX18.out
            have hn20 : (20 + (n : Int) == (n : Int) + 20) = true := by simp; omega
            go_wp2_with fail
            clear y0 y1 y2 y3 y4 y5 y6 y7 y8
            clear z0 z1 z2 z3 z4 z5 z6 z7 z8
            generalize w20.heap.size = g18 at *
            generalize w20.alloc (.cells #[.int .u16 h8.age, .int .u8 h8.opts, .int .u8 h8.typ, .int .u32 h8.id, .int .u32 h8.adv, .int .i32 h8.seq, .int .u16 h8.sum, .int .u16 h8.len, .slice A8 n8 c8] 34) = w21 at *
            refine (eqState_any ⟨h8, A8, n8, c8, B8⟩ ⟨sh, A, n, c, B⟩ w21 HRd8.out HR.out.r).mono ?_
            rintro e w22 ⟨rfl, hb⟩
            rw [eqS_same (s := ⟨h8, A8, n8, c8, B8⟩) (t := ⟨sh, A, n, c, B⟩) HE8.out.1 HE8.out.2]
            replace HR := Lib.hid (HR.out.later hb)
            clear hb
            go_wp2_with fail
            refine (lives_any _).mono ?_
            rintro e wl ⟨rfl, hbl⟩
            go_wp2_with fail
            go_ret
            exact ⟨rfl, below_then HR.out.f.bl hbl⟩
          | true =>
            cases hle : decide (age % 32768 ≤ 3600) with
            | false =>
              obtain ⟨y0, y1, y2, y3, y4, y5, y6, y7, y8⟩ := stC_facts HR.out.x
              go_wp2_with fail
              clear y0 y1 y2 y3 y4 y5 y6 y7 y8
              refine (copyState_any ⟨sh, A, n, c, B⟩ w17 HR.out.r).mono ?_
              rintro e w18 ⟨⟨h', A6, n', A6c, B'⟩, rfl, ⟨e1, e2, e3, hcop⟩, hb⟩
              obtain rfl : sh = h' := e1.symm
              obtain rfl : B = B' := e2.symm
              obtain rfl : n = n' := e3.symm
              have HC := Lib.hid hcop.rd
              have HBase := Lib.hid hcop
              replace HR := Lib.hid (HR.out.later hb)
              clear e1 e2 e3 hcop hb HBase
              go_wp2_with fail
              refine (bytes_any ⟨sh, A6, n, A6c, B⟩ w18 HC.out (by show n ≤ 1073741824; omega)).mono ?_
              rintro e w19 ⟨u, rfl, hu, hb⟩
              replace hu : w19.ownsRow w18.heap.size 5 1 u (20 + n) (u8s (hdB sh ++ B)) := hu
              obtain ⟨A7, c7, rfl, hc7, hm7, hr7⟩ := own_shape hu
              have HOc : Hid (Oct (hdB sh ++ B)) := Lib.hid (Oct.append (hdB_oct HC.out.head) HC.out.oct)
              have HF := Lib.hid (read_first (h := sh) (B := B) HC.out.head [] (by have h1 := HLen.out; have h2 : B.length = n := HC.out.bl; omega))
              rw [List.append_nil] at HF
              have H7 := Lib.hid (And.intro hr7 (And.intro hc7 hm7))
              replace HR := Lib.hid (HR.out.later hb)
              clear hu hr7 hc7 hm7 hb HC
              go_wp2_with fail
              refine (read_yes A7 (20 + n) c7 (hdB sh ++ B) w19 H7.out.1 HOc.out H7.out.2.1 H7.out.2.2 (by omega) HF.out.1).mono ?_
              rintro e w20 ⟨⟨h8, A8, n8, c8, B8⟩, rfl, ⟨e1, e2, e3, hcop⟩, hb⟩
              have HE8 : Hid (h8 = sh ∧ B8 = B) := Lib.hid ⟨e1.trans HF.out.2.1, e2.trans (by rw [HF.out.2.1]; exact HF.out.2.2)⟩
              rw [show (hdAt (hdB sh ++ B) 0).len = 20 + (n : Int) by rw [HF.out.2.1, HLen.out]]
              have HRd8 := Lib.hid hcop.rd
              replace HR := Lib.hid (HR.out.later hb)
              clear e1 e2 e3 hcop hb HF HOc H7
              have hb2 : Below w20.heap.size w20 (w20.alloc (.cells #[.int .u16 h8.age, .int .u8 h8.opts, .int .u8 h8.typ, .int .u32 h8.id, .int .u32 h8.adv, .int .i32 h8.seq, .int .u16 h8.sum, .int .u16 h8.len, .slice A8 n8 c8] 34)) := (Below.refl _ _).alloc (Nat.le_refl _) _
              have HX18 : Hid (Blk (w20.alloc (.cells #[.int .u16 h8.age, .int .u8 h8.opts, .int .u8 h8.typ, .int .u32 h8.id, .int .u32 h8.adv, .int .i32 h8.seq, .int .u16 h8.sum, .int .u16 h8.len, .slice A8 n8 c8] 34)) w20.heap.size 34 (stC h8 A8 n8 c8)) := Lib.hid (show Blk _ _ _ _ from Blk.new _ _ _)
              replace HR := Lib.hid (HR.out.later hb2)
              replace HRd8 := Lib.hid (HRd8.out.later hb2)
              clear hb2
              obtain ⟨y0, y1, y2, y3, y4, y5, y6, y7, y8⟩ := stC_facts HR.out.x
              obtain ⟨z0, z1, z2, z3, z4, z5, z6, z7, z8⟩ := stC_facts HX18.out
              have hn20 : (20 + (n : Int) == (n : Int) + 20) = true := by simp; omega
              go_wp2_with fail
              clear y0 y1 y2 y3 y4 y5 y6 y7 y8
              clear z0 z1 z2 z3 z4 z5 z6 z7 z8
              generalize w20.heap.size = g18 at *
              generalize w20.alloc (.cells #[.int .u16 h8.age, .int .u8 h8.opts, .int .u8 h8.typ, .int .u32 h8.id, .int .u32 h8.adv, .int .i32 h8.seq, .int .u16 h8.sum, .int .u16 h8.len, .slice A8 n8 c8] 34) = w21 at *
              refine (eqState_any ⟨h8, A8, n8, c8, B8⟩ ⟨sh, A, n, c, B⟩ w21 HRd8.out HR.out.r).mono ?_
              rintro e w22 ⟨rfl, hb⟩
              rw [eqS_same (s := ⟨h8, A8, n8, c8, B8⟩) (t := ⟨sh, A, n, c, B⟩) HE8.out.1 HE8.out.2]
              replace HR := Lib.hid (HR.out.later hb)
              clear hb
              go_wp2_with fail
              refine (lives_any _).mono ?_
              rintro e wl ⟨rfl, hbl⟩
              go_wp2_with fail
              go_ret
              exact ⟨rfl, below_then HR.out.f.bl hbl⟩
            | true =>
              obtain ⟨y0, y1, y2, y3, y4, y5, y6, y7, y8⟩ := stC_facts HR.out.x
              go_wp2_with fail
              clear y0 y1 y2 y3 y4 y5 y6 y7 y8
              refine (copyState_any ⟨sh, A, n, c, B⟩ w17 HR.out.r).mono ?_
              rintro e w18 ⟨⟨h', A6, n', A6c, B'⟩, rfl, ⟨e1, e2, e3, hcop⟩, hb⟩
              obtain rfl : sh = h' := e1.symm
              obtain rfl : B = B' := e2.symm
              obtain rfl : n = n' := e3.symm
              have HC := Lib.hid hcop.rd
              have HBase := Lib.hid hcop
              replace HR := Lib.hid (HR.out.later hb)
              clear e1 e2 e3 hcop hb HBase
              go_wp2_with fail
              refine (bytes_any ⟨sh, A6, n, A6c, B⟩ w18 HC.out (by show n ≤ 1073741824; omega)).mono ?_
              rintro e w19 ⟨u, rfl, hu, hb⟩
              replace hu : w19.ownsRow w18.heap.size 5 1 u (20 + n) (u8s (hdB sh ++ B)) := hu
              obtain ⟨A7, c7, rfl, hc7, hm7, hr7⟩ := own_shape hu
              have HOc : Hid (Oct (hdB sh ++ B)) := Lib.hid (Oct.append (hdB_oct HC.out.head) HC.out.oct)
              have HF := Lib.hid (read_first (h := sh) (B := B) HC.out.head [] (by have h1 := HLen.out; have h2 : B.length = n := HC.out.bl; omega))
              rw [List.append_nil] at HF
              have H7 := Lib.hid (And.intro hr7 (And.intro hc7 hm7))
              replace HR := Lib.hid (HR.out.later hb)
              clear hu hr7 hc7 hm7 hb HC
              go_wp2_with fail
              refine (read_yes A7 (20 + n) c7 (hdB sh ++ B) w19 H7.out.1 HOc.out H7.out.2.1 H7.out.2.2 (by omega) HF.out.1).mono ?_
              rintro e w20 ⟨⟨h8, A8, n8, c8, B8⟩, rfl, ⟨e1, e2, e3, hcop⟩, hb⟩
              have HE8 : Hid (h8 = sh ∧ B8 = B) := Lib.hid ⟨e1.trans HF.out.2.1, e2.trans (by rw [HF.out.2.1]; exact HF.out.2.2)⟩
              rw [show (hdAt (hdB sh ++ B) 0).len = 20 + (n : Int) by rw [HF.out.2.1, HLen.out]]
              have HRd8 := Lib.hid hcop.rd
              replace HR := Lib.hid (HR.out.later hb)
              clear e1 e2 e3 hcop hb HF HOc H7
              have hb2 : Below w20.heap.size w20 (w20.alloc (.cells #[.int .u16 h8.age, .int .u8 h8.opts, .int .u8 h8.typ, .int .u32 h8.id, .int .u32 h8.adv, .int .i32 h8.seq, .int .u16 h8.sum, .int .u16 h8.len, .slice A8 n8 c8] 34)) := (Below.refl _ _).alloc (Nat.le_refl _) _
              have HX18 : Hid (Blk (w20.alloc (.cells #[.int .u16 h8.age, .int .u8 h8.opts, .int .u8 h8.typ, .int .u32 h8.id, .int .u32 h8.adv, .int .i32 h8.seq, .int .u16 h8.sum, .int .u16 h8.len, .slice A8 n8 c8] 34)) w20.heap.size 34 (stC h8 A8 n8 c8)) := Lib.hid (show Blk _ _ _ _ from Blk.new _ _ _)
              replace HR := Lib.hid (HR.out.later hb2)
              replace HRd8 := Lib.hid (HRd8.out.later hb2)
              clear hb2
              obtain ⟨y0, y1, y2, y3, y4, y5, y6, y7, y8⟩ := stC_facts HR.out.x
              obtain ⟨z0, z1, z2, z3, z4, z5, z6, z7, z8⟩ := stC_facts HX18.out
              have hn20 : (20 + (n : Int) == (n : Int) + 20) = true := by simp; omega
              go_wp2_with fail
              clear y0 y1 y2 y3 y4 y5 y6 y7 y8
              clear z0 z1 z2 z3 z4 z5 z6 z7 z8
              generalize w20.heap.size = g18 at *
              generalize w20.alloc (.cells #[.int .u16 h8.age, .int .u8 h8.opts, .int .u8 h8.typ, .int .u32 h8.id, .int .u32 h8.adv, .int .i32 h8.seq, .int .u16 h8.sum, .int .u16 h8.len, .slice A8 n8 c8] 34) = w21 at *
              refine (eqState_any ⟨h8, A8, n8, c8, B8⟩ ⟨sh, A, n, c, B⟩ w21 HRd8.out HR.out.r).mono ?_
              rintro e w22 ⟨rfl, hb⟩
              rw [eqS_same (s := ⟨h8, A8, n8, c8, B8⟩) (t := ⟨sh, A, n, c, B⟩) HE8.out.1 HE8.out.2]
              replace HR := Lib.hid (HR.out.later hb)
              clear hb
              go_wp2_with fail
              refine (lives_any _).mono ?_
              rintro e wl ⟨rfl, hbl⟩
              go_wp2_with fail
              go_ret
              exact ⟨rfl, below_then HR.out.f.bl hbl⟩
    · refine wp_region_t (fun W : World => HdBlk W g3 h ∧ BBlk W g4 b) (.take 0 (.take 1 (.fork 2 7 (.fork 3 7 (.take 4 (.take 5 (.take 6 (.one 7 (.one 8 (.take 9 .nil)))))) (.one 3 (.take 4 (.take 5 (.take 6 (.one 8 (.take 9 .nil))))))) (.one 2 (.one 3 (.take 4 (.take 5 (.take 6 (.one 8 (.take 9 .nil)))))))))) (by kernel_rfl) (fun _ d _ _ _ hq => absurd hq.1 (by simp)) ?_
      simp only [TStep.node, nthOp_zero, nthOp_succ]
      replace HF := Lib.hid (show RdW w w2.drew g3 g4 h b from ⟨HF.out.x3, HF.out.x4, HF.out.bl.drew⟩)
      generalize w2.drew = v0 at *
      have HS : Hid ((fun W : World => HdBlk W g3 h ∧ BBlk W g4 b) v0) := Lib.hid ⟨HF.out.x3, HF.out.x4⟩
      refine wpT_take HS (by rfl) (by intro W hW; obtain ⟨hW1, hW2⟩ := hW; obtain ⟨_, _, _, _, _, _, _, _⟩ := hW1.cells; obtain ⟨_, _, _, _, _, _, _, _, _⟩ := body_facts hW2; clear hW1 hW2; go_simp; try with_reducible rfl) ?_
      refine wpT_take HS (by rfl) (by intro W hW; obtain ⟨hW1, hW2⟩ := hW; obtain ⟨_, _, _, _, _, _, _, _⟩ := hW1.cells; obtain ⟨_, _, _, _, _, _, _, _, _⟩ := body_facts hW2; clear hW1 hW2; go_simp; try with_reducible rfl) ?_
      go_simp
      refine wpT_fork (fun K hK => ?_) (fun K hK => ?_)
      · go_wp2_with fail
        refine (copyBody_any b v0 (HBr.out.later HF.out.bl)).mono ?_
        rintro e v1 ⟨b', rfl, hsb, hrd, hb⟩
        have HSb := Lib.hid (And.intro hsb (And.intro (show b'.ln = b.ln by have h1 := hrd.llen; have h2 := HBr.out.llen; rw [hsb.links] at h1; omega) (And.intro (show b'.rn = b.rn by have h1 := hrd.rlen; have h2 := HBr.out.rlen; rw [hsb.routers] at h1; omega) (show b'.dn = b.dn by have h1 := hrd.drow.u8len; have h2 := HBr.out.drow.u8len; rw [hsb.data] at h1; omega))))
        have HRb := Lib.hid hrd
        replace HF := Lib.hid (HF.out.later hb)
        have HS : Hid ((fun W : World => HdBlk W g3 h ∧ BBlk W g4 b) v1) := Lib.hid ⟨HF.out.x3, HF.out.x4⟩
        go_wp2_with fail
        refine hK.out _ _ HS.out ?_
        clear hK K
        go_simp
        refine wpT_fork (fun K hK => ?_) (fun K hK => ?_)
        · go_wp2_with fail
          refine (encode_any v1 h HOk.out b' HRb.out).mono ?_
          rintro e v2 ⟨s, k, rfl, he, hb⟩
          have HE := Lib.hid he
          have HBv := Lib.hid hb.size
          replace HF := Lib.hid (HF.out.later hb)
          have HS : Hid ((fun W : World => HdBlk W g3 h ∧ BBlk W g4 b) v2) := Lib.hid ⟨HF.out.x3, HF.out.x4⟩
          go_wp2_with fail
          refine hK.out _ _ HS.out ?_
          clear hK K
          refine wpT_take HS (by rfl) (by intro W hW; clear hW; go_simp; try with_reducible rfl) ?_
          refine wpT_take HS (by rfl) (by intro W hW; clear hW; go_simp; try with_reducible rfl) ?_
          refine wpT_take HS (by rfl) (by intro W hW; clear hW; go_simp; try with_reducible rfl) ?_
          go_simp
          refine wpT_do fun K hK => ?_
          go_wp2_with fail
          have hba : Below v2.heap.size v2 (v2.alloc (.cells #[.int .u16 0, .int .u8 0, .int .u8 0, .int .u32 0, .int .u32 0, .int .i32 0, .int .u16 0, .int .u16 0, .slice none 0 0] 34)) := (Below.refl _ _).alloc (Nat.le_refl _) _
          have HZ := Lib.hid (Blk.new v2 34 zC)
          have HG7 : Hid (w.heap.size ≤ v2.heap.size) := Lib.hid HF.out.bl.size
          replace HF := Lib.hid (HF.out.later hba)
          have HS : Hid ((fun W : World => HdBlk W g3 h ∧ BBlk W g4 b) (v2.alloc (.cells #[.int .u16 0, .int .u8 0, .int .u8 0, .int .u32 0, .int .u32 0, .int .i32 0, .int .u16 0, .int .u16 0, .slice none 0 0] 34))) := Lib.hid ⟨HF.out.x3, HF.out.x4⟩
          have HE2 := Lib.hid (encS_later HE.out hba)
          refine hK.out _ _ HS.out ?_
          clear hK K hba
          generalize hg7 : v2.heap.size = g7 at *
          have HGv := Lib.hid hg7
          clear hg7
          generalize v2.alloc (.cells #[.int .u16 0, .int .u8 0, .int .u8 0, .int .u32 0, .int .u32 0, .int .i32 0, .int .u16 0, .int .u16 0, .slice none 0 0] 34) = va at *
          refine wpT_do fun K hK => ?_
          have HO := Lib.hid (enc_laid (W2 := v2) HF.out HSb.out.1 HSb.out.2.1 HSb.out.2.2.1 HSb.out.2.2.2 HE2.out HZ.out HG7.out (.inr ⟨by have h1 := HGv.out; have h2 := HBv.out; omega, by rw [HGv.out]; exact Nat.le_refl _⟩) HE.out)
          go_wp2_with (refine wpList_store_row rfl 34 _ _ rfl g7 #[.int .u16 s.h.age, .int .u8 s.h.opts, .int .u8 s.h.typ, .int .u32 s.h.id, .int .u32 s.h.adv, .int .i32 s.h.seq, .int .u16 s.h.sum, .int .u16 s.h.len, .slice s.A s.n s.c] rfl rfl 34 _ HZ.out info_state rfl (by simp [Value.oneCell']) ?_)
          have HS : Hid ((fun W : World => HdBlk W g3 h ∧ BBlk W g4 b) (va.setRow g7 #[.int .u16 s.h.age, .int .u8 s.h.opts, .int .u8 s.h.typ, .int .u32 s.h.id, .int .u32 s.h.adv, .int .i32 s.h.seq, .int .u16 s.h.sum, .int .u16 s.h.len, .slice s.A s.n s.c])) := Lib.hid ⟨HO.out.1.x3, HO.out.1.x4⟩
          refine hK.out _ _ HS.out ?_
          clear hK K
          refine wpT_take HS (by rfl) (by intro W hW; clear hW; go_simp; try with_reducible rfl) ?_
          refine wpT_nil ?_
          go_simp
          exact ⟨rfl, _, s, k, _, _, _, _, _, _, _, _, _, _, rfl, HO⟩
        · go_wp2_with fail
          have hba : Below v1.heap.size v1 (v1.alloc (.cells #[.int .u16 0, .int .u8 0, .int .u8 0, .int .u32 0, .int .u32 0, .int .i32 0, .int .u16 0, .int .u16 0, .slice none 0 0] 34)) := (Below.refl _ _).alloc (Nat.le_refl _) _
          have HZ := Lib.hid (Blk.new v1 34 zC)
          have HG7 : Hid (w.heap.size ≤ v1.heap.size) := Lib.hid HF.out.bl.size
          replace HF := Lib.hid (HF.out.later hba)
          have HS : Hid ((fun W : World => HdBlk W g3 h ∧ BBlk W g4 b) (v1.alloc (.cells #[.int .u16 0, .int .u8 0, .int .u8 0, .int .u32 0, .int .u32 0, .int .i32 0, .int .u16 0, .int .u16 0, .slice none 0 0] 34))) := Lib.hid ⟨HF.out.x3, HF.out.x4⟩
          replace HRb := Lib.hid (HRb.out.later hba)
          refine hK.out _ _ HS.out ?_
          clear hK K hba
          generalize hg7 : v1.heap.size = g7 at *
          have HGv := Lib.hid hg7
          clear hg7
          generalize v1.alloc (.cells #[.int .u16 0, .int .u8 0, .int .u8 0, .int .u32 0, .int .u32 0, .int .i32 0, .int .u16 0, .int .u16 0, .slice none 0 0] 34) = va at *
          have HZ0 := Lib.hid HZ.out.lt
          go_simp
          refine wpT_do fun K hK => ?_
          go_wp2_with fail
          refine (encode_any va h HOk.out b' HRb.out).mono ?_
          rintro e v2 ⟨s, k, rfl, he, hb⟩
          have HE := Lib.hid he
          replace HZ := Lib.hid (HZ.out.later hb)
          have HBv : Hid (g7 < va.heap.size) := Lib.hid (by have := HZ0.out; exact this)
          replace HF := Lib.hid (HF.out.later hb)
          have HS : Hid ((fun W : World => HdBlk W g3 h ∧ BBlk W g4 b) v2) := Lib.hid ⟨HF.out.x3, HF.out.x4⟩
          go_wp2_with fail
          refine hK.out _ _ HS.out ?_
          clear hK K
          refine wpT_take HS (by rfl) (by intro W hW; clear hW; go_simp; try with_reducible rfl) ?_
          refine wpT_take HS (by rfl) (by intro W hW; clear hW; go_simp; try with_reducible rfl) ?_
          refine wpT_take HS (by rfl) (by intro W hW; clear hW; go_simp; try with_reducible rfl) ?_
          go_simp
          refine wpT_do fun K hK => ?_
          have HO := Lib.hid (enc_laid (W2 := v2) HF.out HSb.out.1 HSb.out.2.1 HSb.out.2.2.1 HSb.out.2.2.2 HE.out HZ.out HG7.out (.inl HBv.out) HE.out)
          go_wp2_with (refine wpList_store_row rfl 34 _ _ rfl g7 #[.int .u16 s.h.age, .int .u8 s.h.opts, .int .u8 s.h.typ, .int .u32 s.h.id, .int .u32 s.h.adv, .int .i32 s.h.seq, .int .u16 s.h.sum, .int .u16 s.h.len, .slice s.A s.n s.c] rfl rfl 34 _ HZ.out info_state rfl (by simp [Value.oneCell']) ?_)
          have HS : Hid ((fun W : World => HdBlk W g3 h ∧ BBlk W g4 b) (v2.setRow g7 #[.int .u16 s.h.age, .int .u8 s.h.opts, .int .u8 s.h.typ, .int .u32 s.h.id, .int .u32 s.h.adv, .int .i32 s.h.seq, .int .u16 s.h.sum, .int .u16 s.h.len, .slice s.A s.n s.c])) := Lib.hid ⟨HO.out.1.x3, HO.out.1.x4⟩
          refine hK.out _ _ HS.out ?_
          clear hK K
          refine wpT_take HS (by rfl) (by intro W hW; clear hW; go_simp; try with_reducible rfl) ?_
          refine wpT_nil ?_
          go_simp
          exact ⟨rfl, _, s, k, _, _, _, _, _, _, _, _, _, _, rfl, HO⟩
      · go_wp2_with fail
        have hba : Below v0.heap.size v0 (v0.alloc (.cells #[.int .u16 0, .int .u8 0, .int .u8 0, .int .u32 0, .int .u32 0, .int .i32 0, .int .u16 0, .int .u16 0, .slice none 0 0] 34)) := (Below.refl _ _).alloc (Nat.le_refl _) _
        have HZ := Lib.hid (Blk.new v0 34 zC)
        have HG7 : Hid (w.heap.size ≤ v0.heap.size) := Lib.hid HF.out.bl.size
        replace HF := Lib.hid (HF.out.later hba)
        have HS : Hid ((fun W : World => HdBlk W g3 h ∧ BBlk W g4 b) (v0.alloc (.cells #[.int .u16 0, .int .u8 0, .int .u8 0, .int .u32 0, .int .u32 0, .int .i32 0, .int .u16 0, .int .u16 0, .slice none 0 0] 34))) := Lib.hid ⟨HF.out.x3, HF.out.x4⟩
        refine hK.out _ _ HS.out ?_
        clear hK K hba
        generalize hg7 : v0.heap.size = g7 at *
        have HGv := Lib.hid hg7
        clear hg7
        generalize v0.alloc (.cells #[.int .u16 0, .int .u8 0, .int .u8 0, .int .u32 0, .int .u32 0, .int .i32 0, .int .u16 0, .int .u16 0, .slice none 0 0] 34) = va at *
        go_simp
        refine wpT_do fun K hK => ?_
        go_wp2_with fail
        refine (copyBody_any b va (HBr.out.later HF.out.bl)).mono ?_
        rintro e v1 ⟨b', rfl, hsb, hrd, hb⟩
        have HSb := Lib.hid (And.intro hsb (And.intro (show b'.ln = b.ln by have h1 := hrd.llen; have h2 := HBr.out.llen; rw [hsb.links] at h1; omega) (And.intro (show b'.rn = b.rn by have h1 := hrd.rlen; have h2 := HBr.out.rlen; rw [hsb.routers] at h1; omega) (show b'.dn = b.dn by have h1 := hrd.drow.u8len; have h2 := HBr.out.drow.u8len; rw [hsb.data] at h1; omega))))
        have HRb := Lib.hid hrd
        replace HZ := Lib.hid (HZ.out.later hb)
        replace HF := Lib.hid (HF.out.later hb)
        have HS : Hid ((fun W : World => HdBlk W g3 h ∧ BBlk W g4 b) v1) := Lib.hid ⟨HF.out.x3, HF.out.x4⟩
        have HZ0 := Lib.hid HZ.out.lt
        go_wp2_with fail
        refine hK.out _ _ HS.out ?_
        clear hK K
        go_simp
        refine wpT_do fun K hK => ?_
        go_wp2_with fail
        refine (encode_any v1 h HOk.out b' HRb.out).mono ?_
        rintro e v2 ⟨s, k, rfl, he, hb⟩
        have HE := Lib.hid he
        replace HZ := Lib.hid (HZ.out.later hb)
        have HBv : Hid (g7 < v1.heap.size) := Lib.hid (by have := HZ0.out; exact this)
        replace HF := Lib.hid (HF.out.later hb)
        have HS : Hid ((fun W : World => HdBlk W g3 h ∧ BBlk W g4 b) v2) := Lib.hid ⟨HF.out.x3, HF.out.x4⟩
        go_wp2_with fail
        refine hK.out _ _ HS.out ?_
        clear hK K
        refine wpT_take HS (by rfl) (by intro W hW; clear hW; go_simp; try with_reducible rfl) ?_
        refine wpT_take HS (by rfl) (by intro W hW; clear hW; go_simp; try with_reducible rfl) ?_
        refine wpT_take HS (by rfl) (by intro W hW; clear hW; go_simp; try with_reducible rfl) ?_
        go_simp
        refine wpT_do fun K hK => ?_
        have HO := Lib.hid (enc_laid (W2 := v2) HF.out HSb.out.1 HSb.out.2.1 HSb.out.2.2.1 HSb.out.2.2.2 HE.out HZ.out HG7.out (.inl HBv.out) HE.out)
        go_wp2_with (refine wpList_store_row rfl 34 _ _ rfl g7 #[.int .u16 s.h.age, .int .u8 s.h.opts, .int .u8 s.h.typ, .int .u32 s.h.id, .int .u32 s.h.adv, .int .i32 s.h.seq, .int .u16 s.h.sum, .int .u16 s.h.len, .slice s.A s.n s.c] rfl rfl 34 _ HZ.out info_state rfl (by simp [Value.oneCell']) ?_)
        have HS : Hid ((fun W : World => HdBlk W g3 h ∧ BBlk W g4 b) (v2.setRow g7 #[.int .u16 s.h.age, .int .u8 s.h.opts, .int .u8 s.h.typ, .int .u32 s.h.id, .int .u32 s.h.adv, .int .i32 s.h.seq, .int .u16 s.h.sum, .int .u16 s.h.len, .slice s.A s.n s.c])) := Lib.hid ⟨HO.out.1.x3, HO.out.1.x4⟩
        refine hK.out _ _ HS.out ?_
        clear hK K
        refine wpT_take HS (by rfl) (by intro W hW; clear hW; go_simp; try with_reducible rfl) ?_
        refine wpT_nil ?_
        go_simp
        exact ⟨rfl, _, s, k, _, _, _, _, _, _, _, _, _, _, rfl, HO⟩
end Go.Proofs.Ytljedcfpbdompaa
