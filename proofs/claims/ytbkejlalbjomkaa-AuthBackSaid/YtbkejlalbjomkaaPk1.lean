/-
  Packets, as they stand in memory; a writer beside which other bytes stand.
-/
import Derived.Test.YtbkejlalbjomkaaPk0
import Derived.Test.YtbkejlalbjomkaaOctA4
namespace Go.Proofs.Ytbkejlalbjomkaa
set_option linter.unusedVariables false
open Go.RowKit

/-- A key of a state. -/
structure Ky where
  t : Int
  id : Int
  adv : Int
structure Ky.ok (k : Ky) : Prop where
  t : 0 ≤ k.t ∧ k.t ≤ 255
  id : 0 ≤ k.id ∧ k.id ≤ 4294967295
  adv : 0 ≤ k.adv ∧ k.adv ≤ 4294967295
def Ky.cells (k : Ky) : List Value := [.int .u8 k.t, .int .u32 k.id, .int .u32 k.adv]
theorem ky_len (k : Ky) : k.cells.length = 3 := rfl
theorem hd_len (h : Hd) : h.cells.length = 8 := rfl
/-- A packet: what its cells hold, and what the lists hold. -/
structure PA where
  typ : Int
  router : Int
  area : Int
  mask : Int
  ivl : Int
  hopts : Int
  pri : Int
  dead : Int
  dr : Int
  bdr : Int
  NA : Option Addr
  nn : Nat
  nc : Nat
  nb : List Int
  mtu : Int
  dopts : Int
  flags : Int
  seq : Int
  DA : Option Addr
  dn : Nat
  dc : Nat
  dh : List Hd
  KA : Option Addr
  kn : Nat
  kc : Nat
  ks : List Ky
  SA : Option Addr
  sn : Nat
  sc : Nat
  ss : List SE
  HA : Option Addr
  hn : Nat
  hc : Nat
  hs : List Hd
@[reducible] def PA.C (p : PA) : Array Value := #[.int .u8 p.typ, .int .u32 p.router, .int .u32 p.area, .int .u32 p.mask, .int .u16 p.ivl, .int .u8 p.hopts, .int .u8 p.pri, .int .u32 p.dead, .int .u32 p.dr, .int .u32 p.bdr, .slice p.NA p.nn p.nc, .int .u16 p.mtu, .int .u8 p.dopts, .int .u8 p.flags, .int .u32 p.seq, .slice p.DA p.dn p.dc, .slice p.KA p.kn p.kc, .slice p.SA p.sn p.sc, .slice p.HA p.hn p.hc]
@[reducible] def PA.v (p : PA) : Value := .agg p.C
@[reducible] def PA.HC (p : PA) : Array Value := #[.int .u32 p.mask, .int .u16 p.ivl, .int .u8 p.hopts, .int .u8 p.pri, .int .u32 p.dead, .int .u32 p.dr, .int .u32 p.bdr, .slice p.NA p.nn p.nc]
@[reducible] def PA.DC (p : PA) : Array Value := #[.int .u16 p.mtu, .int .u8 p.dopts, .int .u8 p.flags, .int .u32 p.seq, .slice p.DA p.dn p.dc]
structure PA.ok (p : PA) : Prop where
  typ : 0 ≤ p.typ ∧ p.typ ≤ 255
  router : 0 ≤ p.router ∧ p.router ≤ 4294967295
  area : 0 ≤ p.area ∧ p.area ≤ 4294967295
  mask : 0 ≤ p.mask ∧ p.mask ≤ 4294967295
  ivl : 0 ≤ p.ivl ∧ p.ivl ≤ 65535
  hopts : 0 ≤ p.hopts ∧ p.hopts ≤ 255
  pri : 0 ≤ p.pri ∧ p.pri ≤ 255
  dead : 0 ≤ p.dead ∧ p.dead ≤ 4294967295
  dr : 0 ≤ p.dr ∧ p.dr ≤ 4294967295
  bdr : 0 ≤ p.bdr ∧ p.bdr ≤ 4294967295
  mtu : 0 ≤ p.mtu ∧ p.mtu ≤ 65535
  dopts : 0 ≤ p.dopts ∧ p.dopts ≤ 255
  flags : 0 ≤ p.flags ∧ p.flags ≤ 255
  seq : 0 ≤ p.seq ∧ p.seq ≤ 4294967295
  nb : ∀ x ∈ p.nb, 0 ≤ x ∧ x ≤ 4294967295
  dh : ∀ h ∈ p.dh, h.ok
  ks : ∀ k ∈ p.ks, k.ok
  hs : ∀ h ∈ p.hs, h.ok
  nl : p.nb.length = p.nn
  dl : p.dh.length = p.dn
  kl : p.ks.length = p.kn
  sl : p.ss.length = p.sn
  hl : p.hs.length = p.hn
  nc : p.nn ≤ p.nc ∧ p.nc ≤ 9223372036854775807
  dc : p.dn ≤ p.dc ∧ p.dc ≤ 9223372036854775807
  kc : p.kn ≤ p.kc ∧ p.kc ≤ 9223372036854775807
  sc : p.sn ≤ p.sc ∧ p.sc ≤ 9223372036854775807
  hc : p.hn ≤ p.hc ∧ p.hc ≤ 9223372036854775807
/-- A packet that can be read. -/
structure PA.rd (p : PA) (w : World) : Prop where
  ok : p.ok
  nr : Reads w w.heap.size 1 p.NA p.nn (u32s p.nb)
  dr : Reads w w.heap.size 8 p.DA p.dn (p.dh.flatMap Hd.cells)
  kr : Reads w w.heap.size 3 p.KA p.kn (p.ks.flatMap Ky.cells)
  sr : Reads w w.heap.size 9 p.SA p.sn (p.ss.flatMap SE.cells)
  sa : ∀ s ∈ p.ss, SArg w s
  hr : Reads w w.heap.size 8 p.HA p.hn (p.hs.flatMap Hd.cells)
theorem PA.rd.later {p : PA} {w w' : World} (h : p.rd w) (hb : Below w.heap.size w w') : p.rd w' := ⟨h.ok, h.nr.later hb, h.dr.later hb, h.kr.later hb, h.sr.later hb, fun s hs => (h.sa s hs).later hb, h.hr.later hb⟩
/-- Not more than a law looks at. -/
structure PA.few (p : PA) : Prop where
  n : p.nn ≤ 262144
  d : p.dn ≤ 262144
  k : p.kn ≤ 262144
  s : p.sn ≤ 262144
  h : p.hn ≤ 262144
  b : ∀ s ∈ p.ss, s.n ≤ 262144

/-- A writer, and bytes of somebody else's. -/
structure WRx (w0 w : World) (g : Nat) (M : Int) (ys : List Int) (gx : Nat) (cs : Array Value) : Prop where
  ws : ∃ v s, WS w0.heap.size w g v s ∧ WI s M ys ∧ v.ownBlock ≠ some gx
  b : Below w0.heap.size w0 w
  m : 0 ≤ M ∧ M ≤ 1099511627776
  x : Blk w gx 5 cs
theorem WRx.wr {w0 w : World} {g gx : Nat} {M : Int} {ys : List Int} {cs : Array Value} (h : WRx w0 w g M ys gx cs) : WR w0 w g M ys := by
  obtain ⟨v, s, h1, h2, _⟩ := h.ws
  exact ⟨⟨v, s, h1, h2⟩, h.b, h.m⟩
theorem WR.box {w0 w : World} {g : Nat} {M : Int} {ys : List Int} (h : WR w0 w g M ys) (cs : Array Value) : WRx w0 (w.alloc (.cells cs 5)) g M ys w.heap.size cs := by
  obtain ⟨v, s, h1, h2⟩ := h.ws
  exact ⟨⟨v, s, h1.alloc _, h2, fun e => by have := (own_ge h1.2.2 e).2; omega⟩, h.b.alloc h.b.size _, h.m, Blk.new _ _ _⟩
theorem WRx.later {w0 w w' : World} {g gx : Nat} {M : Int} {ys : List Int} {cs : Array Value} (h : WRx w0 w g M ys gx cs) (hb : Below w.heap.size w w') : WRx w0 w' g M ys gx cs := by
  obtain ⟨v, s, ⟨h1, h2, h3⟩, h4, h5⟩ := h.ws
  exact ⟨⟨v, s, ⟨h1, h2.later hb, own_kept h3 (Kept.of_new hb (fun _ => False)) (fun _ _ h => h)⟩, h4, h5⟩, below_then h.b hb, h.m, h.x.later hb⟩
theorem WPost.keepx {base g gx : Nat} {w w' : World} {v : Value} {s s' : Wr} {cs : Array Value} (h : WS base w g v s) (p : WPost base w w' g v s') (hx : Blk w gx 5 cs) (hn : v.ownBlock ≠ some gx) :
    ∃ v', WS base w' g v' s' ∧ v'.ownBlock ≠ some gx ∧ Blk w' gx 5 cs := by
  obtain ⟨v', h2, k, h3⟩ := p
  refine ⟨v', h2, ?_, hx.kept k ?_⟩
  · rcases h3 with e | ⟨j, hj, e⟩
    · rw [e]; exact hn
    · rw [e]; intro e'; injection e' with e'; have := hx.lt; omega
  · rintro (e | e)
    · exact blk_ne hx h.2.1 (by decide) e
    · exact hn e
theorem wrx_num (w0 w : World) (g : Nat) (M : Int) (ys : List Int) (gx : Nat) (cs : Array Value) (h : WRx w0 w g M ys gx cs) (x : Int) (n : Nat) (h0 : 0 ≤ x) (h1x : x ≤ 4294967295) (hn : n ≤ 4) (hf : fitsB x n = true) :
    Calls Try.prog 33 #[.pointer (some ⟨g, 0, none⟩), .int .u32 x, .int .i64 n] w fun e w' => e = .returned (.pointer (some ⟨g, 0, none⟩)) ∧ WRx w0 w' g M (ys ++ numB x n) gx cs ∧ KeepT w w' := by
  obtain ⟨v, s, h1, h2, h3⟩ := h.ws
  have hm := h.m
  have hl := h2.le
  have hmo := h2.most
  refine (num_any _ g v s x n w h1 h0 h1x (by omega) (by omega) (by omega) (by omega) (by omega)).mono ?_
  rintro e w' ⟨rfl, p⟩
  have hb := WPost.below h1 p
  have hk := WPost.keep h1 p
  obtain ⟨v', h4, h5, h6⟩ := WPost.keepx h1 p h.x h3
  exact ⟨rfl, ⟨⟨v', _, h4, h2.num hn hf, h5⟩, h.b.trans hb, hm, h6⟩, hk⟩
theorem wrx_put (w0 w : World) (g : Nat) (M : Int) (ys zs : List Int) (gx : Nat) (cs : Array Value) (h : WRx w0 w g M ys gx cs) (A : Option Addr) (n c : Nat) (hy : Reads w w.heap.size 1 A n (u8s zs)) (hn : n ≤ 70368744177664) :
    Calls Try.prog 32 #[.pointer (some ⟨g, 0, none⟩), .slice A n c] w fun e w' => e = .returned (.pointer (some ⟨g, 0, none⟩)) ∧ WRx w0 w' g M (ys ++ zs) gx cs ∧ KeepT w w' := by
  obtain ⟨v, s, h1, h2, h3⟩ := h.ws
  have hm := h.m
  have hl := h2.le
  have hmo := h2.most
  refine (put_any _ g v s A n c zs w h1 hy (by omega) (by omega) (by omega)).mono ?_
  rintro e w' ⟨rfl, p⟩
  have hb := WPost.below h1 p
  have hk := WPost.keep h1 p
  obtain ⟨v', h4, h5, h6⟩ := WPost.keepx h1 p h.x h3
  exact ⟨rfl, ⟨⟨v', _, h4, h2.put zs, h5⟩, h.b.trans hb, hm, h6⟩, hk⟩
/-- A block of bytes, read. -/
theorem row_reads {W : World} {g : Nat} {xs : List Int} {n : Nat} (hb : Blk W g 5 (u8s xs).toArray) (hn : xs.length = n) : Reads W W.heap.size 1 (some ⟨g, 0, none⟩) n (u8s xs) := by
  have h1 := Blk.reads (n := n) hb (by rw [u8s_length, hn]; exact Nat.le_refl _)
  rw [List.take_of_length_le (by rw [u8s_length, hn]; exact Nat.le_refl _)] at h1
  exact h1.more hb.lt
/-- A pen of packets. -/
def PpBlk (W : World) (gp g : Nat) : Prop := Blk W gp 80 #[.pointer (some ⟨g, 0, none⟩)]
theorem KeepT.pen {W W' : World} {gp g : Nat} (k : KeepT W W') (p : PpBlk W gp g) : PpBlk W' gp g := k.2 _ _ _ p (by decide) (by decide)
theorem Blk.keepT {W W' : World} {g : Nat} {t : TypeId} {cs : Array Value} (p : Blk W g t cs) (k : KeepT W W') (h1 : t ≠ 124 := by decide) (h2 : t ≠ 5 := by decide) : Blk W' g t cs := k.2 _ _ _ p h1 h2
end Go.Proofs.Ytbkejlalbjomkaa
