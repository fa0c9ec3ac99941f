/-
  packet.Encode, walked. Printed by gen_pk7.py.
-/
import Derived.Test.YtbkejlalbjomkaaPk6
namespace Go.Proofs.Ytbkejlalbjomkaa
set_option linter.unusedVariables false
open Go.RowKit

/-- What stands while a packet is laid. -/
structure EnF (w W : World) (gk ga : Nat) (p : PA) (a : Au) : Prop where
  k : Blk W gk 33 #[.int .u8 p.typ, .int .u32 p.router, .int .u32 p.area, .int .u32 p.mask, .int .u16 p.ivl, .int .u8 p.hopts, .int .u8 p.pri, .int .u32 p.dead, .int .u32 p.dr, .int .u32 p.bdr, .slice p.NA p.nn p.nc, .int .u16 p.mtu, .int .u8 p.dopts, .int .u8 p.flags, .int .u32 p.seq, .slice p.DA p.dn p.dc, .slice p.KA p.kn p.kc, .slice p.SA p.sn p.sc, .slice p.HA p.hn p.hc]
  a : Blk W ga 44 #[.int .u16 a.k, .int .u8 a.d0, .int .u8 a.d1, .int .u8 a.d2, .int .u8 a.d3, .int .u8 a.d4, .int .u8 a.d5, .int .u8 a.d6, .int .u8 a.d7]
  b : Below w.heap.size w W
theorem EnF.later {w W W' : World} {gk ga : Nat} {p : PA} {a : Au} (h : EnF w W gk ga p a) (hb : Below W.heap.size W W') : EnF w W' gk ga p a := ⟨h.k.later hb, h.a.later hb, below_then h.b hb⟩
theorem belowT {a b c : World} (h : Below a.heap.size a b) (k : Below b.heap.size b c) : Below a.heap.size a c := below_then h k
theorem info_packet : (Try.prog.info? 33).map (·.size) = some 19 := by kernel_rfl
def EnS (gp g gk ga : Nat) (p : PA) (a : Au) (W : World) : Prop := PpBlk W gp g ∧ Blk W gk 33 #[.int .u8 p.typ, .int .u32 p.router, .int .u32 p.area, .int .u32 p.mask, .int .u16 p.ivl, .int .u8 p.hopts, .int .u8 p.pri, .int .u32 p.dead, .int .u32 p.dr, .int .u32 p.bdr, .slice p.NA p.nn p.nc, .int .u16 p.mtu, .int .u8 p.dopts, .int .u8 p.flags, .int .u32 p.seq, .slice p.DA p.dn p.dc, .slice p.KA p.kn p.kc, .slice p.SA p.sn p.sc, .slice p.HA p.hn p.hc] ∧ Blk W ga 44 #[.int .u16 a.k, .int .u8 a.d0, .int .u8 a.d1, .int .u8 a.d2, .int .u8 a.d3, .int .u8 a.d4, .int .u8 a.d5, .int .u8 a.d6, .int .u8 a.d7]
theorem EnS.keep {gp g gk ga : Nat} {p : PA} {a : Au} {W W' : World} (k : KeepT W W') (h : EnS gp g gk ga p a W) : EnS gp g gk ga p a W' := ⟨k.pen h.1, h.2.1.keepT k, h.2.2.keepT k⟩
theorem data_reads {W : World} {ga : Nat} {a : Au} (h : Blk W ga 44 #[.int .u16 a.k, .int .u8 a.d0, .int .u8 a.d1, .int .u8 a.d2, .int .u8 a.d3, .int .u8 a.d4, .int .u8 a.d5, .int .u8 a.d6, .int .u8 a.d7]) : Reads W W.heap.size 1 (some ⟨ga, 1, none⟩) 8 (u8s a.data) :=
  Blk.readsFrom (xs := [.int .u16 a.k, .int .u8 a.d0, .int .u8 a.d1, .int .u8 a.d2, .int .u8 a.d3, .int .u8 a.d4, .int .u8 a.d5, .int .u8 a.d6, .int .u8 a.d7]) h 1 8 rfl
/-- Which part a type's packets have. -/
def pN (t : Int) : FuncId := if t = 1 then 34 else if t = 2 then 35 else if t = 3 then 36 else if t = 4 then 37 else 38
def fC (g : Nat) : Array Value := #[.nilFunc, .func (.func 34) #[.agg #[.pointer (some ⟨g, 0, none⟩)]] #[], .func (.func 35) #[.agg #[.pointer (some ⟨g, 0, none⟩)]] #[], .func (.func 36) #[.agg #[.pointer (some ⟨g, 0, none⟩)]] #[], .func (.func 37) #[.agg #[.pointer (some ⟨g, 0, none⟩)]] #[], .func (.func 38) #[.agg #[.pointer (some ⟨g, 0, none⟩)]] #[]]
theorem info_f6 : (Try.prog.info? 84).map (·.size) = some 6 := by kernel_rfl
theorem part_any (w0 w : World) (g : Nat) (M : Int) (ys : List Int) (h : WR w0 w g M ys) (p : PA) (hp : p.rd w0) (hf : p.few) (h1 : 1 ≤ p.typ) (h5 : p.typ ≤ 5) :
    Calls Try.prog (pN p.typ) #[.agg #[.pointer (some ⟨g, 0, none⟩)], p.v] w fun e w' => e = .returned (.tuple #[]) ∧ WR w0 w' g M (ys ++ partB p) ∧ KeepT w w' := by
  have hc : p.typ = 1 ∨ p.typ = 2 ∨ p.typ = 3 ∨ p.typ = 4 ∨ p.typ = 5 := by omega
  unfold partB
  rcases hc with e | e | e | e | e
  · rw [show pN p.typ = 34 by rw [e]; rfl, if_pos e]
    exact penHello_any w0 w g M ys h p hp (Nat.le_trans hf.n (by decide))
  · rw [show pN p.typ = 35 by rw [e]; rfl, if_neg (by omega), if_pos e]
    exact penDesc_any w0 w g M ys h p hp (Nat.le_trans hf.d (by decide))
  · rw [show pN p.typ = 36 by rw [e]; rfl, if_neg (by omega), if_neg (by omega), if_pos e]
    exact penReq_any w0 w g M ys h p hp (Nat.le_trans hf.k (by decide))
  · rw [show pN p.typ = 37 by rw [e]; rfl, if_neg (by omega), if_neg (by omega), if_neg (by omega), if_pos e]
    exact penUpd_any w0 w g M ys h p hp (Nat.le_trans hf.s (by decide)) (fun s hs => Nat.le_trans (hf.b s hs) (by decide))
  · rw [show pN p.typ = 38 by rw [e]; rfl, if_neg (by omega), if_neg (by omega), if_neg (by omega), if_neg (by omega)]
    exact penAck_any w0 w g M ys h p hp (Nat.le_trans hf.h (by decide))
theorem enter_hello (args : Array Value) (W : World) : (callFunc 34 args).run Try.prog W = .ok (.enter 34 args) W := by kernel_rfl
theorem enter_description (args : Array Value) (W : World) : (callFunc 35 args).run Try.prog W = .ok (.enter 35 args) W := by kernel_rfl
theorem enter_request (args : Array Value) (W : World) : (callFunc 36 args).run Try.prog W = .ok (.enter 36 args) W := by kernel_rfl
theorem enter_update (args : Array Value) (W : World) : (callFunc 37 args).run Try.prog W = .ok (.enter 37 args) W := by kernel_rfl
theorem enter_ack (args : Array Value) (W : World) : (callFunc 38 args).run Try.prog W = .ok (.enter 38 args) W := by kernel_rfl
theorem u32_and16 (x : Int) (h0 : 0 ≤ x) (h1 : x ≤ 65535) : bits .and .u32 x 65535 = x := by
  rw [u32_and _ _ (by omega) (by omega) (by omega) (by omega)]
  obtain ⟨a, rfl⟩ := Int.eq_ofNat_of_zero_le h0
  have e : ((65535 : Int)).toNat = 2 ^ 16 - 1 := by omega
  rw [e, Int.toNat_natCast, Nat.and_two_pow_sub_one_eq_mod]
  omega
theorem enter_p (t : Int) (h1 : 1 ≤ t) (h5 : t ≤ 5) (args : Array Value) (W : World) : (callFunc (pN t) args).run Try.prog W = .ok (.enter (pN t) args) W := by
  have hc : t = 1 ∨ t = 2 ∨ t = 3 ∨ t = 4 ∨ t = 5 := by omega
  clear h1 h5
  rcases hc with rfl | rfl | rfl | rfl | rfl
  · rw [show pN 1 = 34 from rfl]; exact enter_hello args W
  · rw [show pN 2 = 35 from rfl]; exact enter_description args W
  · rw [show pN 3 = 36 from rfl]; exact enter_request args W
  · rw [show pN 4 = 37 from rfl]; exact enter_update args W
  · rw [show pN 5 = 38 from rfl]; exact enter_ack args W
theorem fC_at (g : Nat) (t : Int) (h1 : 1 ≤ t) (h5 : t ≤ 5) : (fC g)[t.toNat]? = some (.func (.func (pN t)) #[.agg #[.pointer (some ⟨g, 0, none⟩)]] #[]) := by
  have hc : t = 1 ∨ t = 2 ∨ t = 3 ∨ t = 4 ∨ t = 5 := by omega
  rcases hc with rfl | rfl | rfl | rfl | rfl <;> rfl
def EnQ (w0 : World) (g gp gk ga : Nat) (p : PA) (a : Au) (e : Exit) (act : Act) (W : World) : Prop :=
  e = .normal ∧ ∃ (u0 u1 u4 u5 u6 u7 u9 u10 u11 u12 u13 u14 u15 u16 u17 u18 u19 u20 u21 u22 u23 u24 u25 u26 u27 u28 u29 u30 u31 u32 u33 u34 u35 u36 u37 u38 u39 u40 u41 u42 u43 u44 u45 u46 u47 u48 u49 u50 u51 u52 u53 u54 u55 u56 u57 u58 u59 u60 u61 u62 u63 u64 u65 u66 u67 : Value), act = { tmps := List.toArray (u0 :: u1 :: .pointer (some ⟨gk, 0, none⟩) :: .pointer (some ⟨ga, 0, none⟩) :: u4 :: u5 :: u6 :: u7 :: .pointer (some ⟨gp, 0, none⟩) :: u9 :: u10 :: u11 :: u12 :: u13 :: u14 :: u15 :: u16 :: u17 :: u18 :: u19 :: u20 :: u21 :: u22 :: u23 :: u24 :: u25 :: u26 :: u27 :: u28 :: u29 :: u30 :: u31 :: u32 :: u33 :: u34 :: u35 :: u36 :: u37 :: u38 :: u39 :: u40 :: u41 :: u42 :: u43 :: u44 :: u45 :: u46 :: u47 :: u48 :: u49 :: u50 :: u51 :: u52 :: u53 :: u54 :: u55 :: u56 :: u57 :: u58 :: u59 :: u60 :: u61 :: u62 :: u63 :: u64 :: u65 :: u66 :: u67 :: undef :: undef :: undef :: undef :: undef :: undef :: undef :: undef :: undef :: undef :: undef :: undef :: undef :: undef :: undef :: undef :: undef :: undef :: undef :: undef :: undef :: undef :: undef :: undef :: undef :: undef :: undef :: undef :: undef :: undef :: undef :: undef :: undef :: undef :: undef :: undef :: undef :: undef :: undef :: undef :: undef :: undef :: undef :: undef :: undef :: undef :: undef :: undef :: undef :: undef :: undef :: []), defers := [] } ∧ Hid (WR w0 W g 65535 (encH p a)) ∧ Hid (EnS gp g gk ga p a W)
def RelS (w : World) (gk ga : Nat) (p : PA) (a : Au) (sn : Nat) (iv : Value) (W : World) : Prop :=
  ∃ i : Nat, iv = .int .i64 i ∧ i ≤ sn ∧ Hid (∀ s ∈ p.ss.take i, s.h.len = s.n + 20) ∧ Hid (EnF w W gk ga p a)
set_option maxRecDepth 100000 in
set_option maxHeartbeats 16000000 in
theorem encode_bad (w : World) (p : PA) (a : Au) (h15 : p.typ < 1 ∨ 5 < p.typ) (hp : p.ok) : Calls Try.prog 10 #[p.v, a.v] w fun e w' => EncPost w w' p a e := by
  have hbad : Hid (¬ EncOk p a) := Lib.hid (fun h => by have := h.typ; omega)
  have HE : Hid (Below w.heap.size w ((w.alloc (.cells #[.int .u8 p.typ, .int .u32 p.router, .int .u32 p.area, .int .u32 p.mask, .int .u16 p.ivl, .int .u8 p.hopts, .int .u8 p.pri, .int .u32 p.dead, .int .u32 p.dr, .int .u32 p.bdr, .slice p.NA p.nn p.nc, .int .u16 p.mtu, .int .u8 p.dopts, .int .u8 p.flags, .int .u32 p.seq, .slice p.DA p.dn p.dc, .slice p.KA p.kn p.kc, .slice p.SA p.sn p.sc, .slice p.HA p.hn p.hc] 33)).alloc (.cells #[.int .u16 a.k, .int .u8 a.d0, .int .u8 a.d1, .int .u8 a.d2, .int .u8 a.d3, .int .u8 a.d4, .int .u8 a.d5, .int .u8 a.d6, .int .u8 a.d7] 44))) := Lib.hid (below_two _ _ _)
  have htb := hp.typ
  clear hp
  show Calls Try.prog 10 #[.agg #[.int .u8 p.typ, .int .u32 p.router, .int .u32 p.area, .int .u32 p.mask, .int .u16 p.ivl, .int .u8 p.hopts, .int .u8 p.pri, .int .u32 p.dead, .int .u32 p.dr, .int .u32 p.bdr, .slice p.NA p.nn p.nc, .int .u16 p.mtu, .int .u8 p.dopts, .int .u8 p.flags, .int .u32 p.seq, .slice p.DA p.dn p.dc, .slice p.KA p.kn p.kc, .slice p.SA p.sn p.sc, .slice p.HA p.hn p.hc], .agg #[.int .u16 a.k, .int .u8 a.d0, .int .u8 a.d1, .int .u8 a.d2, .int .u8 a.d3, .int .u8 a.d4, .int .u8 a.d5, .int .u8 a.d6, .int .u8 a.d7]] w _
  rcases h15 with h15 | h15
  all_goals
    go_enter Try.func10, Try.ntmps10
    go_wp2_with fail
    go_ret2
    exact .inr ⟨hbad.out, 21, by decide, fun _ => rfl, rfl, HE.out⟩
set_option maxRecDepth 100000 in
set_option maxHeartbeats 16000000 in
theorem encode_good (w : World) (p : PA) (a : Au) (hp : p.rd w) (hf : p.few) (ha : a.ok) (hty : 1 ≤ p.typ ∧ p.typ ≤ 5) : Calls Try.prog 10 #[p.v, a.v] w fun e w' => EncPost w w' p a e := by
  have HP := Lib.hid hp
  have HO := Lib.hid hp.ok
  have HFw := Lib.hid hf
  have HA := Lib.hid ha
  have HE : Hid (EnF w ((w.alloc (.cells #[.int .u8 p.typ, .int .u32 p.router, .int .u32 p.area, .int .u32 p.mask, .int .u16 p.ivl, .int .u8 p.hopts, .int .u8 p.pri, .int .u32 p.dead, .int .u32 p.dr, .int .u32 p.bdr, .slice p.NA p.nn p.nc, .int .u16 p.mtu, .int .u8 p.dopts, .int .u8 p.flags, .int .u32 p.seq, .slice p.DA p.dn p.dc, .slice p.KA p.kn p.kc, .slice p.SA p.sn p.sc, .slice p.HA p.hn p.hc] 33)).alloc (.cells #[.int .u16 a.k, .int .u8 a.d0, .int .u8 a.d1, .int .u8 a.d2, .int .u8 a.d3, .int .u8 a.d4, .int .u8 a.d5, .int .u8 a.d6, .int .u8 a.d7] 44)) w.heap.size (w.heap.size + 1) p a) := Lib.hid ⟨(Blk.new w 33 _).alloc _, new_at w _ _, below_two _ _ _⟩
  have htb := hp.ok.typ
  have hkb := ha.k
  clear hp hf ha
  show Calls Try.prog 10 #[.agg #[.int .u8 p.typ, .int .u32 p.router, .int .u32 p.area, .int .u32 p.mask, .int .u16 p.ivl, .int .u8 p.hopts, .int .u8 p.pri, .int .u32 p.dead, .int .u32 p.dr, .int .u32 p.bdr, .slice p.NA p.nn p.nc, .int .u16 p.mtu, .int .u8 p.dopts, .int .u8 p.flags, .int .u32 p.seq, .slice p.DA p.dn p.dc, .slice p.KA p.kn p.kc, .slice p.SA p.sn p.sc, .slice p.HA p.hn p.hc], .agg #[.int .u16 a.k, .int .u8 a.d0, .int .u8 a.d1, .int .u8 a.d2, .int .u8 a.d3, .int .u8 a.d4, .int .u8 a.d5, .int .u8 a.d6, .int .u8 a.d7]] w _
  · obtain ⟨h1, h5⟩ := hty
    have n1 : ¬ p.typ < 1 := by omega
    have n5 : ¬ 5 < p.typ := by omega
    have hno : Hid (¬ (p.typ < 1 ∨ 5 < p.typ)) := by show ¬ _; omega
    go_enter Try.func10, Try.ntmps10
    go_wp2_with (refine wpList_load_row rfl 33 _ rfl w.heap.size rfl 33 #[.int .u8 p.typ, .int .u32 p.router, .int .u32 p.area, .int .u32 p.mask, .int .u16 p.ivl, .int .u8 p.hopts, .int .u8 p.pri, .int .u32 p.dead, .int .u32 p.dr, .int .u32 p.bdr, .slice p.NA p.nn p.nc, .int .u16 p.mtu, .int .u8 p.dopts, .int .u8 p.flags, .int .u32 p.seq, .slice p.DA p.dn p.dc, .slice p.KA p.kn p.kc, .slice p.SA p.sn p.sc, .slice p.HA p.hn p.hc] (0, 0) _ HE.out.k Try.underlying33 rfl info_packet ?_)
    generalize hgk : w.heap.size = gk at HE ⊢
    generalize hga : gk + 1 = ga at *
    have HG := Lib.hid (And.intro hgk hga)
    clear hgk hga
    generalize (w.alloc (.cells #[.int .u8 p.typ, .int .u32 p.router, .int .u32 p.area, .int .u32 p.mask, .int .u16 p.ivl, .int .u8 p.hopts, .int .u8 p.pri, .int .u32 p.dead, .int .u32 p.dr, .int .u32 p.bdr, .slice p.NA p.nn p.nc, .int .u16 p.mtu, .int .u8 p.dopts, .int .u8 p.flags, .int .u32 p.seq, .slice p.DA p.dn p.dc, .slice p.KA p.kn p.kc, .slice p.SA p.sn p.sc, .slice p.HA p.hn p.hc] 33)).alloc (.cells #[.int .u16 a.k, .int .u8 a.d0, .int .u8 a.d1, .int .u8 a.d2, .int .u8 a.d3, .int .u8 a.d4, .int .u8 a.d5, .int .u8 a.d6, .int .u8 a.d7] 44) = w1 at *
    refine (alone_any w1 p HO.out h1 h5).mono ?_
    rintro e w2 ⟨b, rfl, hb, hbel⟩
    replace HE := Lib.hid (HE.out.later hbel)
    clear hbel
    cases b with
    | false =>
      have hbad : Hid (¬ EncOk p a) := Lib.hid (fun h => absurd (hb.2 h.alone) (by decide))
      clear hb
      go_wp2_with fail
      go_ret2
      exact .inr ⟨hbad.out, 24, by decide, fun h => absurd h hno.out, rfl, HE.out.b⟩
    | true =>
      have HAl : Hid p.alone := Lib.hid (hb.1 rfl)
      clear hb
      obtain ⟨SA, hSA⟩ : ∃ x, p.SA = x := ⟨_, rfl⟩
      obtain ⟨sn, hsn⟩ : ∃ x, p.sn = x := ⟨_, rfl⟩
      obtain ⟨sc, hsc⟩ : ∃ x, p.sc = x := ⟨_, rfl⟩
      have HN : Hid (Stl w SA sn p.ss) := Lib.hid (by rw [← hSA, ← hsn]; exact ⟨HP.out.sr, HO.out.sl, HP.out.sa⟩)
      have HNL : Hid (p.ss.length = sn) := Lib.hid (by rw [← hsn]; exact HO.out.sl)
      have hcc : sn ≤ sc ∧ sc ≤ 9223372036854775807 := by rw [← hsn, ← hsc]; exact HO.out.sc
      have hsf : sn ≤ 262144 := by rw [← hsn]; exact HFw.out.s
      have b17 := HE.out.k.cell 17
      simp at b17
      rw [hSA, hsn, hsc] at b17
      have HSA := Lib.hid (And.intro hSA (And.intro hsn hsc))
      clear hSA hsn hsc
      go_wp2_with fail
      clear b17
      go_loopw [28] (RelS w gk ga p a sn) (fun iv _ => sn - (intOf iv).toNat)
      case atStart => exact ⟨0, rfl, by omega, Lib.hid (by simp), HE⟩
      case round =>
        obtain ⟨i, rfl, hi, hA, hE⟩ := hrel
        have HE := hE
        by_cases hlt : i < sn
        · obtain ⟨ad, ⟨h, xA, xn, xc, xB⟩, rfl, _, hx, hok, a0, a1, a2, a3, a4, a5, a6, a7, a8⟩ := (HN.out.later hE.out.b).at_ hlt
          simp only at a0 a1 a2 a3 a4 a5 a6 a7 a8
          have hxn : xn ≤ 262144 := HFw.out.b _ (List.mem_of_getElem? hx)
          have hhl := hok.head.len
          simp only at hhl
          have HX := Lib.hid hx
          have HE2 := Lib.hid (HE.out.later ((Below.refl wr.heap.size wr).alloc (Nat.le_refl _) (.cells #[.int .u16 h.age, .int .u8 h.opts, .int .u8 h.typ, .int .u32 h.id, .int .u32 h.adv, .int .i32 h.seq, .int .u16 h.sum, .int .u16 h.len, .slice xA xn xc] 76)))
          have wl : IntKind.i64.wrap ((xn : Int) + 20) = xn + 20 := IntWalk.i64_in _ (by omega)
          have HT := Lib.hid (take_snocL hx)
          clear hx hok hE HE
          by_cases hq : h.len = (xn : Int) + 20
          · have hq' : (h.len != (xn : Int) + 20) = false := by simp [hq]
            have HQ := Lib.hid hq
            clear hq
            go_wp2_with fail
            clear a0 a1 a2 a3 a4 a5 a6 a7 a8
            generalize wr.alloc (.cells #[.int .u16 h.age, .int .u8 h.opts, .int .u8 h.typ, .int .u32 h.id, .int .u32 h.adv, .int .i32 h.seq, .int .u16 h.sum, .int .u16 h.len, .slice xA xn xc] 76) = w3 at *
            go_roundw
            case rel => exact ⟨i + 1, by go_num, by omega, Lib.hid (fun s hs => by
              rw [HT.out, List.mem_append] at hs
              rcases hs with hs | hs
              · exact hA.out s hs
              · rw [List.mem_singleton] at hs; subst hs; exact HQ.out), HE2⟩
            case measure => simp [intOf]; omega
          · have hq' : (h.len != (xn : Int) + 20) = true := by simpa using hq
            have hbad : Hid (¬ EncOk p a) := Lib.hid (fun k => hq (k.lens _ (List.mem_of_getElem? HX.out)))
            clear hq
            go_wp2_with fail
            go_ret2
            exact .inr ⟨hbad.out, 22, by decide, fun h => absurd h hno.out, rfl, HE2.out.b⟩
        · obtain rfl : i = sn := by omega
          have HLens : Hid (∀ s ∈ p.ss, s.h.len = s.n + 20) := Lib.hid (by
            have := hA.out
            rwa [List.take_of_length_le (by rw [HNL.out]; exact Nat.le_refl _)] at this)
          clear hA hE hlt hi hcc hsf
          have e0 := HE.out.a.cell 0
          simp at e0
          by_cases hk2 : 2 < a.k
          · have hbad : Hid (¬ EncOk p a) := Lib.hid (fun k => by have := k.kind; omega)
            go_wp2_with fail
            go_ret2
            exact .inr ⟨hbad.out, 25, by decide, fun h => absurd h hno.out, rfl, HE.out.b⟩
          · go_wp2_with fail
            have HKd : Hid (a.k ≤ 2) := Lib.hid (by omega)
            clear e0 HN hk2
            obtain ⟨w0, rfl⟩ : ∃ w0, w0 = wr := ⟨_, rfl⟩
            refine (wr_new 65535 w0 (by omega) (by omega)).mono ?_
            rintro e w3 ⟨g, rfl, hw, hg1, hg2⟩
            have HPw : Hid (p.rd w0) := Lib.hid (HP.out.later HE.out.b)
            have hbp : Below w3.heap.size w3 (w3.alloc (.cells #[.pointer (some ⟨g, 0, none⟩)] 80)) := (Below.refl _ _).alloc (Nat.le_refl _) _
            have HW : Hid (WR w0 (w3.alloc (.cells #[.pointer (some ⟨g, 0, none⟩)] 80)).drew g 65535 []) := Lib.hid (hw.later hbp).drew
            have HK : Hid (KeepT w0 (w3.alloc (.cells #[.pointer (some ⟨g, 0, none⟩)] 80)).drew) := Lib.hid (KeepT.of_below (below_then hw.b hbp).drew)
            have HS : Hid (EnS w3.heap.size g gk ga p a (w3.alloc (.cells #[.pointer (some ⟨g, 0, none⟩)] 80)).drew) := Lib.hid ⟨(Blk.new w3 80 _).drewN 1, ((HE.out.later hw.b).later hbp).k.drewN 1, ((HE.out.later hw.b).later hbp).a.drewN 1⟩
            have HBw : Hid (Below w.heap.size w w0) := Lib.hid HE.out.b
            have wk : IntKind.u32.wrap a.k = a.k := by simp [IntKind.wrap, IntKind.bits, IntKind.signed]; omega
            clear hw hbp HE
            go_wp2_with fail
            generalize w3.heap.size = gp at *
            refine Code.wp_mono (Q := EnQ w0 g gp gk ga p a) ?_ ?_
            · rintro e act w5 ⟨rfl, h⟩
              obtain ⟨u0, u1, u4, u5, u6, u7, u9, u10, h⟩ := h
              obtain ⟨u11, u12, u13, u14, u15, u16, u17, u18, h⟩ := h
              obtain ⟨u19, u20, u21, u22, u23, u24, u25, u26, h⟩ := h
              obtain ⟨u27, u28, u29, u30, u31, u32, u33, u34, h⟩ := h
              obtain ⟨u35, u36, u37, u38, u39, u40, u41, u42, h⟩ := h
              obtain ⟨u43, u44, u45, u46, u47, u48, u49, u50, h⟩ := h
              obtain ⟨u51, u52, u53, u54, u55, u56, u57, u58, h⟩ := h
              obtain ⟨u59, u60, u61, u62, u63, u64, u65, u66, h⟩ := h
              obtain ⟨u67, h⟩ := h
              obtain ⟨hact, hall⟩ := h
              subst hact
              go_simp
              have HW := hall.1
              have HS := hall.2
              clear hall
              have hz := HS.out
              unfold EnS PpBlk at hz
              have p0 := hz.1.cell 0
              simp at p0
              clear hz
              have hb6 : Below w5.heap.size w5 (w5.alloc (.cells  #[.nilFunc, .func (.func 34) #[.agg #[.pointer (some ⟨g, 0, none⟩)]] #[], .func (.func 35) #[.agg #[.pointer (some ⟨g, 0, none⟩)]] #[], .func (.func 36) #[.agg #[.pointer (some ⟨g, 0, none⟩)]] #[], .func (.func 37) #[.agg #[.pointer (some ⟨g, 0, none⟩)]] #[], .func (.func 38) #[.agg #[.pointer (some ⟨g, 0, none⟩)]] #[]] 84)) := (Below.refl _ _).alloc (Nat.le_refl _) _
              have HW6 := Lib.hid (HW.out.later hb6)
              have HS6 := Lib.hid (EnS.keep (KeepT.of_below hb6) HS.out)
              have HF6 : Hid (Blk (w5.alloc (.cells  #[.nilFunc, .func (.func 34) #[.agg #[.pointer (some ⟨g, 0, none⟩)]] #[], .func (.func 35) #[.agg #[.pointer (some ⟨g, 0, none⟩)]] #[], .func (.func 36) #[.agg #[.pointer (some ⟨g, 0, none⟩)]] #[], .func (.func 37) #[.agg #[.pointer (some ⟨g, 0, none⟩)]] #[], .func (.func 38) #[.agg #[.pointer (some ⟨g, 0, none⟩)]] #[]] 84)) w5.heap.size 84 (fC g)) := Lib.hid (Blk.new _ _ _)
              clear hb6 HW HS
              have hcf := enter_p p.typ h1 h5
              go_wp2_with (first | (refine wpList_load_row rfl 33 _ rfl gk rfl 33 #[.int .u8 p.typ, .int .u32 p.router, .int .u32 p.area, .int .u32 p.mask, .int .u16 p.ivl, .int .u8 p.hopts, .int .u8 p.pri, .int .u32 p.dead, .int .u32 p.dr, .int .u32 p.bdr, .slice p.NA p.nn p.nc, .int .u16 p.mtu, .int .u8 p.dopts, .int .u8 p.flags, .int .u32 p.seq, .slice p.DA p.dn p.dc, .slice p.KA p.kn p.kc, .slice p.SA p.sn p.sc, .slice p.HA p.hn p.hc] (0, 0) _ HS6.out.2.1 Try.underlying33 rfl info_packet ?_) | (refine wpList_store_row rfl 84 _ _ rfl w5.heap.size #[.nilFunc, .func (.func 34) #[.agg #[.pointer (some ⟨g, 0, none⟩)]] #[], .func (.func 35) #[.agg #[.pointer (some ⟨g, 0, none⟩)]] #[], .func (.func 36) #[.agg #[.pointer (some ⟨g, 0, none⟩)]] #[], .func (.func 37) #[.agg #[.pointer (some ⟨g, 0, none⟩)]] #[], .func (.func 38) #[.agg #[.pointer (some ⟨g, 0, none⟩)]] #[]] rfl rfl 84 _ (heap_alloc_new w5 _) info_f6 rfl (by simp [Value.oneCell']) ?_; rw [World.setRow_alloc_new]; generalize w5.heap.size = gf at *; generalize w5.alloc (.cells  #[.nilFunc, .func (.func 34) #[.agg #[.pointer (some ⟨g, 0, none⟩)]] #[], .func (.func 35) #[.agg #[.pointer (some ⟨g, 0, none⟩)]] #[], .func (.func 36) #[.agg #[.pointer (some ⟨g, 0, none⟩)]] #[], .func (.func 37) #[.agg #[.pointer (some ⟨g, 0, none⟩)]] #[], .func (.func 38) #[.agg #[.pointer (some ⟨g, 0, none⟩)]] #[]] 84) = w6 at *; have t0 : w6.cell? ⟨gk, 0, none⟩ = some (.int .u8 p.typ) := (by have := HS6.out.2.1.cell 0; simpa using this); have tf : w6.cell? ⟨gf, p.typ.toNat, none⟩ = some (.func (.func (pN p.typ)) #[.agg #[.pointer (some ⟨g, 0, none⟩)]] #[]) := (by rw [HF6.out.cell]; exact fC_at g p.typ h1 h5)))
              refine (part_any w0 w6 g 65535 _ HW6.out p HPw.out HFw.out h1 h5).mono ?_
              rintro e w7 ⟨rfl, hw, hk⟩
              have HW : Hid (WR w0 w7.drew g 65535 (encH p a ++ partB p)) := Lib.hid hw.drew
              have HS : Hid (EnS gp g gk ga p a w7.drew) := Lib.hid (EnS.keep (hk.trans (KeepT.of_below (Below.refl _ _).drew)) HS6.out)
              have HK : Hid (KeepT w7.drew w7.drew) := Lib.hid (KeepT.refl _)
              clear hw hk HS6 HW6 HF6 hcf t0 tf p0
              go_wp2_with fail
              refine wp_region_t (EnS gp g gk ga p a) (.take 0 (.take 2 (.take 1 (.take 3 (.one 4 (.take 5 (.take 6 (.one 7 .nil)))))))) (by kernel_rfl) (fun _ d _ _ _ h => by cases d <;> exact h) ?_
              simp only [TStep.node, nthOp_zero, nthOp_succ]
              generalize w7.drew = q0 at *
              refine wpT_take HS (by rfl) (by intro W hW; clear hW; go_simp; try with_reducible rfl) ?_
              refine wpT_take HS (by rfl) (by intro W hW; clear hW; go_simp; try with_reducible rfl) ?_
              refine wpT_take HS (by rfl) (by intro W hW; obtain ⟨hp, hh, hk⟩ := hW; unfold PpBlk at hp; have a0 := hp.cell 0; clear hp hh hk; simp at a0; go_simp; try with_reducible rfl) ?_
              refine wpT_take HS (by rfl) (by intro W hW; obtain ⟨hp, hh, hk⟩ := hW; unfold PpBlk at hp; have a0 := hp.cell 0; clear hp hh hk; simp at a0; go_simp; try with_reducible rfl) ?_
              go_simp
              refine wpT_do fun K hK => ?_
              go_wp2_with fail
              refine (wr_len w0 q0 g 65535 _ HW.out).mono ?_
              rintro e w8 ⟨ln, rfl, hln, hle, kd, rfl⟩
              have hbd := below_of_drewN q0.heap.size q0 kd
              replace HW := Lib.hid (HW.out.drewN kd)
              replace HK := Lib.hid (HK.out.trans (KeepT.of_below hbd))
              replace HS : Hid (EnS gp g gk ga p a (q0.drewN kd)) := Lib.hid (EnS.keep (KeepT.of_below hbd) HS.out)
              have wl1 : IntKind.u32.wrap (ln : Int) = ln := by simp [IntKind.wrap, IntKind.bits, IntKind.signed]; omega
              have wl2 := u32_and16 (ln : Int) (by omega) hln
              have HLe := Lib.hid hle
              clear hbd hle
              generalize q0.drewN kd = qv1 at *
              go_wp2_with fail
              refine hK.out _ _ HS.out ?_
              clear hK K
              refine wpT_take HS (by rfl) (by intro W hW; clear hW; go_simp; try with_reducible rfl) ?_
              refine wpT_take HS (by rfl) (by intro W hW; clear hW; go_simp; try with_reducible rfl) ?_
              go_simp
              refine wpT_do fun K hK => ?_
              go_wp2_with fail
              refine (wr_patch w0 qv1 g 65535 _ HW.out 2 (ln : Int) 2 (by omega) (by omega) (by omega) (by omega) (fits_of (by omega) (by omega) (.inr (by omega))) (by rw [List.length_append, encH_len]; omega) (by omega)).mono ?_
              rintro e qv2 ⟨rfl, hw, hk⟩
              replace HW := Lib.hid hw
              replace HK := Lib.hid (HK.out.trans hk)
              replace HS : Hid (EnS gp g gk ga p a qv2) := Lib.hid (EnS.keep hk HS.out)
              clear hw hk
              go_wp2_with fail
              refine hK.out _ _ HS.out ?_
              clear hK K
              refine wpT_nil ?_
              go_simp
              have hz := HS.out
              unfold EnS PpBlk at hz
              have p0 := hz.1.cell 0
              have k0 := hz.2.2.cell 0
              simp at p0 k0
              clear hz HK
              have HPl : Hid ((pat (encH p a ++ partB p) 2 (pb (ln : Int) 2) 2).length = encL p a) := Lib.hid (pat_length (by rw [List.length_append, encH_len]; omega) (by rw [pb_length]; exact Nat.le_refl _))
              by_cases hlen : encL p a ≤ 65535
              rotate_left
              · have hbad : Hid (¬ EncOk p a) := Lib.hid (fun h => hlen h.len)
                go_wp2_with fail
                refine (wr_done_no w0 qv2 g 65535 _ HW.out (by rw [HPl.out]; omega)).mono ?_
                rintro e w9 ⟨rfl, hb9⟩
                have HB9 := Lib.hid (below_then (belowT HBw.out HW.out.b) hb9)
                clear hb9 p0 k0
                go_wp2_with fail
                go_ret2
                exact .inr ⟨hbad.out, 11, by decide, fun h => absurd h hno.out, rfl, HB9.out⟩
              · have hln2 : ln = encL p a := HLe.out (by show ((encL p a : Nat) : Int) ≤ 65535; omega)
                subst hln2
                have HW2 : Hid (WR w0 qv2 g 65535 (encB1 p a)) := HW
                have HOk : Hid (EncOk p a) := Lib.hid ⟨⟨h1, h5⟩, HAl.out, HLens.out, HKd.out, hlen⟩
                have hL24 := encL_ge p a
                clear HW HPl HLe wl1 wl2
                go_wp2_with fail
                refine (wr_done_yes w0 qv2 g 65535 _ HW2.out (by rw [encB1_len]; omega)).mono ?_
                rintro e w9 ⟨u, rfl, hu, hb9⟩
                rw [encB1_len] at hu
                have HB9 := Lib.hid (below_then (belowT HBw.out HW2.out.b) hb9)
                have HSz : Hid (w.heap.size ≤ (qv2).heap.size) := Lib.hid (belowT HBw.out HW2.out.b).size
                have HA9 : Hid (Blk w9 ga 44 #[.int .u16 a.k, .int .u8 a.d0, .int .u8 a.d1, .int .u8 a.d2, .int .u8 a.d3, .int .u8 a.d4, .int .u8 a.d5, .int .u8 a.d6, .int .u8 a.d7]) := Lib.hid (HS.out.2.2.later hb9)
                have k9 := HA9.out.cell 0
                simp at k9
                clear hb9 p0 k0 HS
                by_cases hk2 : a.k = 2
                · have hkb : (a.k != 2) = false := by simp [hk2]
                  have HU := Lib.hid hu
                  have HE2 : Hid (encB p a = encB1 p a) := Lib.hid (by unfold encB; rw [if_pos hk2])
                  clear hu hk2
                  go_wp2_with fail
                  go_ret2
                  exact .inl ⟨HOk.out, _, rfl, by rw [HE2.out]; exact own_mono HU.out HSz.out, HB9.out⟩
                · have hkb : (a.k != 2) = true := by simp [hk2]
                  have HE2 : Hid (encB p a = ((encB1 p a).set 12 (encS p a / 256)).set 13 (encS p a % 256)) := Lib.hid (by unfold encB; rw [if_neg hk2])
                  obtain ⟨gb, cap, rfl, hgb, hnc, hcm, hrow⟩ := Row.of_own hu (by omega)
                  unfold maxLen at hcm
                  have HRow := Lib.hid hrow
                  have HGb : Hid (w.heap.size ≤ gb) := Lib.hid (Nat.le_trans HSz.out hgb)
                  have hEl := encB1_len p a
                  have HEl := Lib.hid hEl
                  have HOc : Hid (Oct (encB1 p a)) := Lib.hid (encB1_oct HO.out HA.out HPw.out HFw.out)
                  clear hu hk2 hrow hgb HW2 HSz hEl
                  go_wp2_with fail
                  refine (summed_any (some ⟨gb, 0, none⟩) (encL p a) cap (encB1 p a) w9 (HRow.out.u8reads HEl.out) hL24 hnc (by omega) (by omega)).mono ?_
                  rintro e wa ⟨v, rfl, hov⟩
                  obtain ⟨A5, c5, hv5⟩ := OwnB.shape hov
                  subst hv5
                  have HV := Lib.hid hov
                  have HRa := Lib.hid (HRow.out.later hov.2)
                  have HBa := Lib.hid (below_then HB9.out hov.2)
                  have hsl : (sumd (encB1 p a)).length ≤ 65535 := by
                    unfold sumd
                    rw [List.length_append, List.length_take, List.length_drop, HEl.out]
                    omega
                  have hcaps := OwnB.caps hov rfl
                  clear hov HRow HB9 k9 HA9
                  go_wp2_with fail
                  refine (plain_any A5 _ c5 (sumd (encB1 p a)) wa wa.heap.size (HV.out.reads rfl) HOc.out.sumd hcaps.1 hcaps.2).mono ?_
                  rintro e wb ⟨rfl, kb, rfl⟩
                  have hSS : (65535 : Int) - foldS (ws true (sumd (encB1 p a))) = encS p a := rfl
                  rw [hSS]
                  have hSb := encS_range p a HOc.out
                  clear hSS HV hsl hcaps
                  have HRb : Hid (Row (wa.drewN kb) gb 5 cap (u8s (encB1 p a))) := HRa
                  have HBb := Lib.hid (below_then HBa.out (below_of_drewN _ wa kb))
                  clear HRa HBa
                  generalize wa.drewN kb = wb at *
                  obtain ⟨s, hs⟩ : ∃ s, encS p a = s := ⟨_, rfl⟩
                  rw [hs] at hSb HE2 ⊢
                  obtain ⟨x12, hx12, c12⟩ := HRb.out.u8cell (i := 12) (by rw [HEl.out]; omega)
                  obtain ⟨x13, hx13, c13⟩ := HRb.out.u8cell (i := 13) (by rw [HEl.out]; omega)
                  have f12 := HRb.out.frozen 12
                  have f13 := HRb.out.frozen 13
                  have ws1 : s / 256 % 256 = s / 256 := by omega
                  have HR2 := Lib.hid ((HRb.out.u8set 12 (s / 256)).u8set 13 (s % 256))
                  have HB2 := Lib.hid ((HBb.out.setCell (p := ⟨gb, 12, none⟩) HGb.out (.int .u8 (s / 256))).setCell (p := ⟨gb, 13, none⟩) HGb.out (.int .u8 (s % 256)))
                  clear hx12 hx13 HRb HBb hs
                  go_wp2_with fail
                  go_ret2
                  refine .inl ⟨HOk.out, _, rfl, ?_, HB2.out⟩
                  rw [HE2.out]
                  exact own_of_row HR2.out HGb.out hcm (by rw [u8s_length, List.length_set, List.length_set, HEl.out])
            · skip
              refine wp_region_t (EnS gp g gk ga p a) (.take 0 (.take 2 (.take 6 (.take 9 (.take 14 (.take 18 (.take 19 (.take 1 (.take 3 (.take 7 (.take 10 (.take 15 (.take 16 (.fork 4 12 (.fork 5 12 (.fork 8 12 (.fork 11 12 (.one 12 (.one 13 (.one 17 (.one 20 .nil)))) (.one 11 (.one 13 (.one 17 (.one 20 .nil))))) (.one 8 (.one 11 (.one 13 (.one 17 (.one 20 .nil)))))) (.one 5 (.one 8 (.one 11 (.one 13 (.one 17 (.one 20 .nil))))))) (.one 4 (.one 5 (.one 8 (.one 11 (.one 13 (.one 17 (.one 20 .nil))))))))))))))))))))) (by kernel_rfl) (fun _ d _ _ _ h => absurd h.1 (by intro e; cases e)) ?_
              simp only [TStep.node, nthOp_zero, nthOp_succ]
              generalize (w3.alloc (.cells #[.pointer (some ⟨g, 0, none⟩)] 80)).drew = v0 at *
              refine wpT_take HS (by rfl) (by intro W hW; clear hW; go_simp; try with_reducible rfl) ?_
              refine wpT_take HS (by rfl) (by intro W hW; clear hW; go_simp; try with_reducible rfl) ?_
              refine wpT_take HS (by rfl) (by intro W hW; clear hW; go_simp; try with_reducible rfl) ?_
              refine wpT_take HS (by rfl) (by intro W hW; clear hW; go_simp; try with_reducible rfl) ?_
              refine wpT_take HS (by rfl) (by intro W hW; clear hW; go_simp; try with_reducible rfl) ?_
              refine wpT_take HS (by rfl) (by intro W hW; clear hW; go_simp; try with_reducible rfl) ?_
              go_simp
              refine wpT_take HS (by rfl) (by intro W hW; clear hW; go_simp; try with_reducible rfl) ?_
              refine wpT_take HS (by rfl) (by intro W hW; obtain ⟨hp, hh, hk⟩ := hW; unfold PpBlk at hp; have a0 := hp.cell 0; have b0 := hh.cell 0; have b1 := hh.cell 1; have b2 := hh.cell 2; have k0 := hk.cell 0; clear hp hh hk; simp at a0 b0 b1 b2 k0; go_simp; try with_reducible rfl) ?_
              refine wpT_take HS (by rfl) (by intro W hW; obtain ⟨hp, hh, hk⟩ := hW; unfold PpBlk at hp; have a0 := hp.cell 0; have b0 := hh.cell 0; have b1 := hh.cell 1; have b2 := hh.cell 2; have k0 := hk.cell 0; clear hp hh hk; simp at a0 b0 b1 b2 k0; go_simp; try with_reducible rfl) ?_
              refine wpT_take HS (by rfl) (by intro W hW; obtain ⟨hp, hh, hk⟩ := hW; unfold PpBlk at hp; have a0 := hp.cell 0; have b0 := hh.cell 0; have b1 := hh.cell 1; have b2 := hh.cell 2; have k0 := hk.cell 0; clear hp hh hk; simp at a0 b0 b1 b2 k0; go_simp; try with_reducible rfl) ?_
              refine wpT_take HS (by rfl) (by intro W hW; obtain ⟨hp, hh, hk⟩ := hW; unfold PpBlk at hp; have a0 := hp.cell 0; have b0 := hh.cell 0; have b1 := hh.cell 1; have b2 := hh.cell 2; have k0 := hk.cell 0; clear hp hh hk; simp at a0 b0 b1 b2 k0; go_simp; try with_reducible rfl) ?_
              refine wpT_take HS (by rfl) (by intro W hW; obtain ⟨hp, hh, hk⟩ := hW; unfold PpBlk at hp; have a0 := hp.cell 0; have b0 := hh.cell 0; have b1 := hh.cell 1; have b2 := hh.cell 2; have k0 := hk.cell 0; clear hp hh hk; simp at a0 b0 b1 b2 k0; go_simp; try with_reducible rfl) ?_
              go_simp
              refine wpT_take HS (by rfl) (by intro W hW; clear hW; go_simp; try with_reducible rfl) ?_
              go_simp
              refine wpT_fork (fun K hK => ?_) (fun K hK => ?_)
              · go_wp2_with fail
                have hb2 : Below v0.heap.size v0 (v0.alloc (.cells #[.int .u8 2, .int .u8 p.typ, .int .u8 0, .int .u8 0] 5)) := (Below.refl _ _).alloc (Nat.le_refl _) _
                replace HK := Lib.hid (HK.out.trans (KeepT.of_below hb2))
                replace HS : Hid ((EnS gp g gk ga p a) (v0.alloc (.cells #[.int .u8 2, .int .u8 p.typ, .int .u8 0, .int .u8 0] 5))) := Lib.hid (EnS.keep (KeepT.of_below hb2) HS.out)
                replace HW := Lib.hid (HW.out.box #[.int .u8 2, .int .u8 p.typ, .int .u8 0, .int .u8 0])
                clear hb2
                generalize v0.heap.size = gxx at *
                generalize v0.alloc (.cells #[.int .u8 2, .int .u8 p.typ, .int .u8 0, .int .u8 0] 5) = v1 at *
                refine hK.out _ _ HS.out ?_
                clear hK K
                go_simp
                refine wpT_fork (fun K hK => ?_) (fun K hK => ?_)
                · go_wp2_with fail
                  refine (wr_put w0 v1 g 65535 _ [2, p.typ, 0, 0] HW.out.wr _ 4 _ (row_reads HW.out.x rfl) (by omega)).mono ?_
                  rintro e v2 ⟨rfl, hw, hk⟩
                  replace HW := Lib.hid hw
                  replace HK := Lib.hid (HK.out.trans hk)
                  replace HS : Hid ((EnS gp g gk ga p a) v2) := Lib.hid (EnS.keep hk HS.out)
                  clear hw hk
                  go_wp2_with fail
                  refine hK.out _ _ HS.out ?_
                  clear hK K
                  go_simp
                  refine wpT_fork (fun K hK => ?_) (fun K hK => ?_)
                  · go_wp2_with fail
                    refine (wr_num w0 v2 g 65535 _ HW.out p.router 4 (by have := HO.out.router; omega) (by have := HO.out.router; omega) (by omega) (fits_of (by omega) (by omega) (.inl rfl))).mono ?_
                    rintro e v3 ⟨rfl, hw, hk⟩
                    replace HW := Lib.hid hw
                    replace HK := Lib.hid (HK.out.trans hk)
                    replace HS : Hid ((EnS gp g gk ga p a) v3) := Lib.hid (EnS.keep hk HS.out)
                    clear hw hk
                    go_wp2_with fail
                    refine hK.out _ _ HS.out ?_
                    clear hK K
                    go_simp
                    refine wpT_fork (fun K hK => ?_) (fun K hK => ?_)
                    · go_wp2_with fail
                      refine (wr_num w0 v3 g 65535 _ HW.out p.area 4 (by have := HO.out.area; omega) (by have := HO.out.area; omega) (by omega) (fits_of (by omega) (by omega) (.inl rfl))).mono ?_
                      rintro e v4 ⟨rfl, hw, hk⟩
                      replace HW := Lib.hid hw
                      replace HK := Lib.hid (HK.out.trans hk)
                      replace HS : Hid ((EnS gp g gk ga p a) v4) := Lib.hid (EnS.keep hk HS.out)
                      clear hw hk
                      go_wp2_with fail
                      refine hK.out _ _ HS.out ?_
                      clear hK K
                      go_simp
                      refine wpT_do fun K hK => ?_
                      go_wp2_with fail
                      have hb2 : Below v4.heap.size v4 (v4.alloc (.cells #[.int .u8 0, .int .u8 0] 5)) := (Below.refl _ _).alloc (Nat.le_refl _) _
                      replace HK := Lib.hid (HK.out.trans (KeepT.of_below hb2))
                      replace HS : Hid ((EnS gp g gk ga p a) (v4.alloc (.cells #[.int .u8 0, .int .u8 0] 5))) := Lib.hid (EnS.keep (KeepT.of_below hb2) HS.out)
                      replace HW := Lib.hid (HW.out.box #[.int .u8 0, .int .u8 0])
                      clear hb2
                      generalize v4.heap.size = gxy at *
                      generalize v4.alloc (.cells #[.int .u8 0, .int .u8 0] 5) = v5 at *
                      refine hK.out _ _ HS.out ?_
                      clear hK K
                      go_simp
                      refine wpT_do fun K hK => ?_
                      go_wp2_with fail
                      refine (wr_put w0 v5 g 65535 _ [0, 0] HW.out.wr _ 2 _ (row_reads HW.out.x rfl) (by omega)).mono ?_
                      rintro e v6 ⟨rfl, hw, hk⟩
                      replace HW := Lib.hid hw
                      replace HK := Lib.hid (HK.out.trans hk)
                      replace HS : Hid ((EnS gp g gk ga p a) v6) := Lib.hid (EnS.keep hk HS.out)
                      clear hw hk
                      go_wp2_with fail
                      refine hK.out _ _ HS.out ?_
                      clear hK K
                      go_simp
                      refine wpT_do fun K hK => ?_
                      go_wp2_with fail
                      refine (wr_num w0 v6 g 65535 _ HW.out a.k 2 (by omega) (by omega) (by omega) (fits_of (by omega) (by omega) (.inr (by omega)))).mono ?_
                      rintro e v7 ⟨rfl, hw, hk⟩
                      replace HW := Lib.hid hw
                      replace HK := Lib.hid (HK.out.trans hk)
                      replace HS : Hid ((EnS gp g gk ga p a) v7) := Lib.hid (EnS.keep hk HS.out)
                      clear hw hk
                      go_wp2_with fail
                      refine hK.out _ _ HS.out ?_
                      clear hK K
                      go_simp
                      refine wpT_do fun K hK => ?_
                      go_wp2_with fail
                      refine (wr_put w0 v7 g 65535 _ _ HW.out _ 8 _ (data_reads HS.out.2.2) (by omega)).mono ?_
                      rintro e v8 ⟨rfl, hw, hk⟩
                      replace HW := Lib.hid hw
                      replace HK := Lib.hid (HK.out.trans hk)
                      replace HS : Hid (EnS gp g gk ga p a v8) := Lib.hid (EnS.keep hk HS.out)
                      clear hw hk
                      go_wp2_with fail
                      refine hK.out _ _ HS.out ?_
                      clear hK K
                      refine wpT_nil ?_
                      go_simp
                      refine ⟨rfl, ?_⟩
                      refine ⟨_, _, _, _, _, _, _, _, _, _, _, _, _, _, _, _, _, _, _, _, _, _, _, _, _, _, _, _, _, _, _, _, _, _, _, _, _, _, _, _, _, _, _, _, _, _, _, _, _, _, _, _, _, _, _, _, _, _, _, _, _, _, _, _, _, rfl, ?_, HS⟩
                      have := HW.out
                      show Hid (WR w0 v8 g 65535 (encH p a))
                      exact Lib.hid (by simpa only [encH, List.nil_append, List.append_assoc] using this)
                    · go_wp2_with fail
                      have hb2 : Below v3.heap.size v3 (v3.alloc (.cells #[.int .u8 0, .int .u8 0] 5)) := (Below.refl _ _).alloc (Nat.le_refl _) _
                      replace HK := Lib.hid (HK.out.trans (KeepT.of_below hb2))
                      replace HS : Hid ((EnS gp g gk ga p a) (v3.alloc (.cells #[.int .u8 0, .int .u8 0] 5))) := Lib.hid (EnS.keep (KeepT.of_below hb2) HS.out)
                      replace HW := Lib.hid (HW.out.box #[.int .u8 0, .int .u8 0])
                      clear hb2
                      generalize v3.heap.size = gxy at *
                      generalize v3.alloc (.cells #[.int .u8 0, .int .u8 0] 5) = v9 at *
                      refine hK.out _ _ HS.out ?_
                      clear hK K
                      go_simp
                      refine wpT_do fun K hK => ?_
                      go_wp2_with fail
                      refine (wrx_num w0 v9 g 65535 _ _ _ HW.out p.area 4 (by have := HO.out.area; omega) (by have := HO.out.area; omega) (by omega) (fits_of (by omega) (by omega) (.inl rfl))).mono ?_
                      rintro e v10 ⟨rfl, hw, hk⟩
                      replace HW := Lib.hid hw
                      replace HK := Lib.hid (HK.out.trans hk)
                      replace HS : Hid ((EnS gp g gk ga p a) v10) := Lib.hid (EnS.keep hk HS.out)
                      clear hw hk
                      go_wp2_with fail
                      refine hK.out _ _ HS.out ?_
                      clear hK K
                      go_simp
                      refine wpT_do fun K hK => ?_
                      go_wp2_with fail
                      refine (wr_put w0 v10 g 65535 _ [0, 0] HW.out.wr _ 2 _ (row_reads HW.out.x rfl) (by omega)).mono ?_
                      rintro e v11 ⟨rfl, hw, hk⟩
                      replace HW := Lib.hid hw
                      replace HK := Lib.hid (HK.out.trans hk)
                      replace HS : Hid ((EnS gp g gk ga p a) v11) := Lib.hid (EnS.keep hk HS.out)
                      clear hw hk
                      go_wp2_with fail
                      refine hK.out _ _ HS.out ?_
                      clear hK K
                      go_simp
                      refine wpT_do fun K hK => ?_
                      go_wp2_with fail
                      refine (wr_num w0 v11 g 65535 _ HW.out a.k 2 (by omega) (by omega) (by omega) (fits_of (by omega) (by omega) (.inr (by omega)))).mono ?_
                      rintro e v12 ⟨rfl, hw, hk⟩
                      replace HW := Lib.hid hw
                      replace HK := Lib.hid (HK.out.trans hk)
                      replace HS : Hid ((EnS gp g gk ga p a) v12) := Lib.hid (EnS.keep hk HS.out)
                      clear hw hk
                      go_wp2_with fail
                      refine hK.out _ _ HS.out ?_
                      clear hK K
                      go_simp
                      refine wpT_do fun K hK => ?_
                      go_wp2_with fail
                      refine (wr_put w0 v12 g 65535 _ _ HW.out _ 8 _ (data_reads HS.out.2.2) (by omega)).mono ?_
                      rintro e v13 ⟨rfl, hw, hk⟩
                      replace HW := Lib.hid hw
                      replace HK := Lib.hid (HK.out.trans hk)
                      replace HS : Hid (EnS gp g gk ga p a v13) := Lib.hid (EnS.keep hk HS.out)
                      clear hw hk
                      go_wp2_with fail
                      refine hK.out _ _ HS.out ?_
                      clear hK K
                      refine wpT_nil ?_
                      go_simp
                      refine ⟨rfl, ?_⟩
                      refine ⟨_, _, _, _, _, _, _, _, _, _, _, _, _, _, _, _, _, _, _, _, _, _, _, _, _, _, _, _, _, _, _, _, _, _, _, _, _, _, _, _, _, _, _, _, _, _, _, _, _, _, _, _, _, _, _, _, _, _, _, _, _, _, _, _, _, rfl, ?_, HS⟩
                      have := HW.out
                      show Hid (WR w0 v13 g 65535 (encH p a))
                      exact Lib.hid (by simpa only [encH, List.nil_append, List.append_assoc] using this)
                  · go_wp2_with fail
                    have hb2 : Below v2.heap.size v2 (v2.alloc (.cells #[.int .u8 0, .int .u8 0] 5)) := (Below.refl _ _).alloc (Nat.le_refl _) _
                    replace HK := Lib.hid (HK.out.trans (KeepT.of_below hb2))
                    replace HS : Hid ((EnS gp g gk ga p a) (v2.alloc (.cells #[.int .u8 0, .int .u8 0] 5))) := Lib.hid (EnS.keep (KeepT.of_below hb2) HS.out)
                    replace HW := Lib.hid (HW.out.box #[.int .u8 0, .int .u8 0])
                    clear hb2
                    generalize v2.heap.size = gxy at *
                    generalize v2.alloc (.cells #[.int .u8 0, .int .u8 0] 5) = v14 at *
                    refine hK.out _ _ HS.out ?_
                    clear hK K
                    go_simp
                    refine wpT_do fun K hK => ?_
                    go_wp2_with fail
                    refine (wrx_num w0 v14 g 65535 _ _ _ HW.out p.router 4 (by have := HO.out.router; omega) (by have := HO.out.router; omega) (by omega) (fits_of (by omega) (by omega) (.inl rfl))).mono ?_
                    rintro e v15 ⟨rfl, hw, hk⟩
                    replace HW := Lib.hid hw
                    replace HK := Lib.hid (HK.out.trans hk)
                    replace HS : Hid ((EnS gp g gk ga p a) v15) := Lib.hid (EnS.keep hk HS.out)
                    clear hw hk
                    go_wp2_with fail
                    refine hK.out _ _ HS.out ?_
                    clear hK K
                    go_simp
                    refine wpT_do fun K hK => ?_
                    go_wp2_with fail
                    refine (wrx_num w0 v15 g 65535 _ _ _ HW.out p.area 4 (by have := HO.out.area; omega) (by have := HO.out.area; omega) (by omega) (fits_of (by omega) (by omega) (.inl rfl))).mono ?_
                    rintro e v16 ⟨rfl, hw, hk⟩
                    replace HW := Lib.hid hw
                    replace HK := Lib.hid (HK.out.trans hk)
                    replace HS : Hid ((EnS gp g gk ga p a) v16) := Lib.hid (EnS.keep hk HS.out)
                    clear hw hk
                    go_wp2_with fail
                    refine hK.out _ _ HS.out ?_
                    clear hK K
                    go_simp
                    refine wpT_do fun K hK => ?_
                    go_wp2_with fail
                    refine (wr_put w0 v16 g 65535 _ [0, 0] HW.out.wr _ 2 _ (row_reads HW.out.x rfl) (by omega)).mono ?_
                    rintro e v17 ⟨rfl, hw, hk⟩
                    replace HW := Lib.hid hw
                    replace HK := Lib.hid (HK.out.trans hk)
                    replace HS : Hid ((EnS gp g gk ga p a) v17) := Lib.hid (EnS.keep hk HS.out)
                    clear hw hk
                    go_wp2_with fail
                    refine hK.out _ _ HS.out ?_
                    clear hK K
                    go_simp
                    refine wpT_do fun K hK => ?_
                    go_wp2_with fail
                    refine (wr_num w0 v17 g 65535 _ HW.out a.k 2 (by omega) (by omega) (by omega) (fits_of (by omega) (by omega) (.inr (by omega)))).mono ?_
                    rintro e v18 ⟨rfl, hw, hk⟩
                    replace HW := Lib.hid hw
                    replace HK := Lib.hid (HK.out.trans hk)
                    replace HS : Hid ((EnS gp g gk ga p a) v18) := Lib.hid (EnS.keep hk HS.out)
                    clear hw hk
                    go_wp2_with fail
                    refine hK.out _ _ HS.out ?_
                    clear hK K
                    go_simp
                    refine wpT_do fun K hK => ?_
                    go_wp2_with fail
                    refine (wr_put w0 v18 g 65535 _ _ HW.out _ 8 _ (data_reads HS.out.2.2) (by omega)).mono ?_
                    rintro e v19 ⟨rfl, hw, hk⟩
                    replace HW := Lib.hid hw
                    replace HK := Lib.hid (HK.out.trans hk)
                    replace HS : Hid (EnS gp g gk ga p a v19) := Lib.hid (EnS.keep hk HS.out)
                    clear hw hk
                    go_wp2_with fail
                    refine hK.out _ _ HS.out ?_
                    clear hK K
                    refine wpT_nil ?_
                    go_simp
                    refine ⟨rfl, ?_⟩
                    refine ⟨_, _, _, _, _, _, _, _, _, _, _, _, _, _, _, _, _, _, _, _, _, _, _, _, _, _, _, _, _, _, _, _, _, _, _, _, _, _, _, _, _, _, _, _, _, _, _, _, _, _, _, _, _, _, _, _, _, _, _, _, _, _, _, _, _, rfl, ?_, HS⟩
                    have := HW.out
                    show Hid (WR w0 v19 g 65535 (encH p a))
                    exact Lib.hid (by simpa only [encH, List.nil_append, List.append_assoc] using this)
                · go_wp2_with fail
                  have hb2 : Below v1.heap.size v1 (v1.alloc (.cells #[.int .u8 0, .int .u8 0] 5)) := (Below.refl _ _).alloc (Nat.le_refl _) _
                  replace HK := Lib.hid (HK.out.trans (KeepT.of_below hb2))
                  replace HS : Hid ((EnS gp g gk ga p a) (v1.alloc (.cells #[.int .u8 0, .int .u8 0] 5))) := Lib.hid (EnS.keep (KeepT.of_below hb2) HS.out)
                  have HRx := Lib.hid (row_reads (xs := [2, p.typ, 0, 0]) (HW.out.later hb2).x rfl)
                  replace HW := Lib.hid (HW.out.wr.box #[.int .u8 0, .int .u8 0])
                  clear hb2
                  generalize v1.heap.size = gxy at *
                  generalize v1.alloc (.cells #[.int .u8 0, .int .u8 0] 5) = v20 at *
                  refine hK.out _ _ HS.out ?_
                  clear hK K
                  go_simp
                  refine wpT_do fun K hK => ?_
                  go_wp2_with fail
                  refine (wrx_put w0 v20 g 65535 _ _ _ _ HW.out _ 4 _ HRx.out (by omega)).mono ?_
                  rintro e v21 ⟨rfl, hw, hk⟩
                  replace HW := Lib.hid hw
                  replace HK := Lib.hid (HK.out.trans hk)
                  replace HS : Hid ((EnS gp g gk ga p a) v21) := Lib.hid (EnS.keep hk HS.out)
                  clear hw hk
                  go_wp2_with fail
                  clear HRx
                  refine hK.out _ _ HS.out ?_
                  clear hK K
                  go_simp
                  refine wpT_do fun K hK => ?_
                  go_wp2_with fail
                  refine (wrx_num w0 v21 g 65535 _ _ _ HW.out p.router 4 (by have := HO.out.router; omega) (by have := HO.out.router; omega) (by omega) (fits_of (by omega) (by omega) (.inl rfl))).mono ?_
                  rintro e v22 ⟨rfl, hw, hk⟩
                  replace HW := Lib.hid hw
                  replace HK := Lib.hid (HK.out.trans hk)
                  replace HS : Hid ((EnS gp g gk ga p a) v22) := Lib.hid (EnS.keep hk HS.out)
                  clear hw hk
                  go_wp2_with fail
                  refine hK.out _ _ HS.out ?_
                  clear hK K
                  go_simp
                  refine wpT_do fun K hK => ?_
                  go_wp2_with fail
                  refine (wrx_num w0 v22 g 65535 _ _ _ HW.out p.area 4 (by have := HO.out.area; omega) (by have := HO.out.area; omega) (by omega) (fits_of (by omega) (by omega) (.inl rfl))).mono ?_
                  rintro e v23 ⟨rfl, hw, hk⟩
                  replace HW := Lib.hid hw
                  replace HK := Lib.hid (HK.out.trans hk)
                  replace HS : Hid ((EnS gp g gk ga p a) v23) := Lib.hid (EnS.keep hk HS.out)
                  clear hw hk
                  go_wp2_with fail
                  refine hK.out _ _ HS.out ?_
                  clear hK K
                  go_simp
                  refine wpT_do fun K hK => ?_
                  go_wp2_with fail
                  refine (wr_put w0 v23 g 65535 _ [0, 0] HW.out.wr _ 2 _ (row_reads HW.out.x rfl) (by omega)).mono ?_
                  rintro e v24 ⟨rfl, hw, hk⟩
                  replace HW := Lib.hid hw
                  replace HK := Lib.hid (HK.out.trans hk)
                  replace HS : Hid ((EnS gp g gk ga p a) v24) := Lib.hid (EnS.keep hk HS.out)
                  clear hw hk
                  go_wp2_with fail
                  refine hK.out _ _ HS.out ?_
                  clear hK K
                  go_simp
                  refine wpT_do fun K hK => ?_
                  go_wp2_with fail
                  refine (wr_num w0 v24 g 65535 _ HW.out a.k 2 (by omega) (by omega) (by omega) (fits_of (by omega) (by omega) (.inr (by omega)))).mono ?_
                  rintro e v25 ⟨rfl, hw, hk⟩
                  replace HW := Lib.hid hw
                  replace HK := Lib.hid (HK.out.trans hk)
                  replace HS : Hid ((EnS gp g gk ga p a) v25) := Lib.hid (EnS.keep hk HS.out)
                  clear hw hk
                  go_wp2_with fail
                  refine hK.out _ _ HS.out ?_
                  clear hK K
                  go_simp
                  refine wpT_do fun K hK => ?_
                  go_wp2_with fail
                  refine (wr_put w0 v25 g 65535 _ _ HW.out _ 8 _ (data_reads HS.out.2.2) (by omega)).mono ?_
                  rintro e v26 ⟨rfl, hw, hk⟩
                  replace HW := Lib.hid hw
                  replace HK := Lib.hid (HK.out.trans hk)
                  replace HS : Hid (EnS gp g gk ga p a v26) := Lib.hid (EnS.keep hk HS.out)
                  clear hw hk
                  go_wp2_with fail
                  refine hK.out _ _ HS.out ?_
                  clear hK K
                  refine wpT_nil ?_
                  go_simp
                  refine ⟨rfl, ?_⟩
                  refine ⟨_, _, _, _, _, _, _, _, _, _, _, _, _, _, _, _, _, _, _, _, _, _, _, _, _, _, _, _, _, _, _, _, _, _, _, _, _, _, _, _, _, _, _, _, _, _, _, _, _, _, _, _, _, _, _, _, _, _, _, _, _, _, _, _, _, rfl, ?_, HS⟩
                  have := HW.out
                  show Hid (WR w0 v26 g 65535 (encH p a))
                  exact Lib.hid (by simpa only [encH, List.nil_append, List.append_assoc] using this)
              · go_wp2_with fail
                have hb2 : Below v0.heap.size v0 (v0.alloc (.cells #[.int .u8 0, .int .u8 0] 5)) := (Below.refl _ _).alloc (Nat.le_refl _) _
                replace HK := Lib.hid (HK.out.trans (KeepT.of_below hb2))
                replace HS : Hid ((EnS gp g gk ga p a) (v0.alloc (.cells #[.int .u8 0, .int .u8 0] 5))) := Lib.hid (EnS.keep (KeepT.of_below hb2) HS.out)
                replace HW := Lib.hid (HW.out.box #[.int .u8 0, .int .u8 0])
                clear hb2
                generalize v0.heap.size = gxy at *
                generalize v0.alloc (.cells #[.int .u8 0, .int .u8 0] 5) = v27 at *
                refine hK.out _ _ HS.out ?_
                clear hK K
                go_simp
                refine wpT_do fun K hK => ?_
                go_wp2_with fail
                have hb2 : Below v27.heap.size v27 (v27.alloc (.cells #[.int .u8 2, .int .u8 p.typ, .int .u8 0, .int .u8 0] 5)) := (Below.refl _ _).alloc (Nat.le_refl _) _
                replace HK := Lib.hid (HK.out.trans (KeepT.of_below hb2))
                replace HS : Hid ((EnS gp g gk ga p a) (v27.alloc (.cells #[.int .u8 2, .int .u8 p.typ, .int .u8 0, .int .u8 0] 5))) := Lib.hid (EnS.keep (KeepT.of_below hb2) HS.out)
                have HRx := Lib.hid (row_reads (xs := [2, p.typ, 0, 0]) (Blk.new v27 5 #[.int .u8 2, .int .u8 p.typ, .int .u8 0, .int .u8 0]) rfl)
                replace HW := Lib.hid (HW.out.later hb2)
                clear hb2
                generalize v27.heap.size = gxx at *
                generalize v27.alloc (.cells #[.int .u8 2, .int .u8 p.typ, .int .u8 0, .int .u8 0] 5) = v28 at *
                refine hK.out _ _ HS.out ?_
                clear hK K
                go_simp
                refine wpT_do fun K hK => ?_
                go_wp2_with fail
                refine (wrx_put w0 v28 g 65535 _ _ _ _ HW.out _ 4 _ HRx.out (by omega)).mono ?_
                rintro e v29 ⟨rfl, hw, hk⟩
                replace HW := Lib.hid hw
                replace HK := Lib.hid (HK.out.trans hk)
                replace HS : Hid ((EnS gp g gk ga p a) v29) := Lib.hid (EnS.keep hk HS.out)
                clear hw hk
                go_wp2_with fail
                clear HRx
                refine hK.out _ _ HS.out ?_
                clear hK K
                go_simp
                refine wpT_do fun K hK => ?_
                go_wp2_with fail
                refine (wrx_num w0 v29 g 65535 _ _ _ HW.out p.router 4 (by have := HO.out.router; omega) (by have := HO.out.router; omega) (by omega) (fits_of (by omega) (by omega) (.inl rfl))).mono ?_
                rintro e v30 ⟨rfl, hw, hk⟩
                replace HW := Lib.hid hw
                replace HK := Lib.hid (HK.out.trans hk)
                replace HS : Hid ((EnS gp g gk ga p a) v30) := Lib.hid (EnS.keep hk HS.out)
                clear hw hk
                go_wp2_with fail
                refine hK.out _ _ HS.out ?_
                clear hK K
                go_simp
                refine wpT_do fun K hK => ?_
                go_wp2_with fail
                refine (wrx_num w0 v30 g 65535 _ _ _ HW.out p.area 4 (by have := HO.out.area; omega) (by have := HO.out.area; omega) (by omega) (fits_of (by omega) (by omega) (.inl rfl))).mono ?_
                rintro e v31 ⟨rfl, hw, hk⟩
                replace HW := Lib.hid hw
                replace HK := Lib.hid (HK.out.trans hk)
                replace HS : Hid ((EnS gp g gk ga p a) v31) := Lib.hid (EnS.keep hk HS.out)
                clear hw hk
                go_wp2_with fail
                refine hK.out _ _ HS.out ?_
                clear hK K
                go_simp
                refine wpT_do fun K hK => ?_
                go_wp2_with fail
                refine (wr_put w0 v31 g 65535 _ [0, 0] HW.out.wr _ 2 _ (row_reads HW.out.x rfl) (by omega)).mono ?_
                rintro e v32 ⟨rfl, hw, hk⟩
                replace HW := Lib.hid hw
                replace HK := Lib.hid (HK.out.trans hk)
                replace HS : Hid ((EnS gp g gk ga p a) v32) := Lib.hid (EnS.keep hk HS.out)
                clear hw hk
                go_wp2_with fail
                refine hK.out _ _ HS.out ?_
                clear hK K
                go_simp
                refine wpT_do fun K hK => ?_
                go_wp2_with fail
                refine (wr_num w0 v32 g 65535 _ HW.out a.k 2 (by omega) (by omega) (by omega) (fits_of (by omega) (by omega) (.inr (by omega)))).mono ?_
                rintro e v33 ⟨rfl, hw, hk⟩
                replace HW := Lib.hid hw
                replace HK := Lib.hid (HK.out.trans hk)
                replace HS : Hid ((EnS gp g gk ga p a) v33) := Lib.hid (EnS.keep hk HS.out)
                clear hw hk
                go_wp2_with fail
                refine hK.out _ _ HS.out ?_
                clear hK K
                go_simp
                refine wpT_do fun K hK => ?_
                go_wp2_with fail
                refine (wr_put w0 v33 g 65535 _ _ HW.out _ 8 _ (data_reads HS.out.2.2) (by omega)).mono ?_
                rintro e v34 ⟨rfl, hw, hk⟩
                replace HW := Lib.hid hw
                replace HK := Lib.hid (HK.out.trans hk)
                replace HS : Hid (EnS gp g gk ga p a v34) := Lib.hid (EnS.keep hk HS.out)
                clear hw hk
                go_wp2_with fail
                refine hK.out _ _ HS.out ?_
                clear hK K
                refine wpT_nil ?_
                go_simp
                refine ⟨rfl, ?_⟩
                refine ⟨_, _, _, _, _, _, _, _, _, _, _, _, _, _, _, _, _, _, _, _, _, _, _, _, _, _, _, _, _, _, _, _, _, _, _, _, _, _, _, _, _, _, _, _, _, _, _, _, _, _, _, _, _, _, _, _, _, _, _, _, _, _, _, _, _, rfl, ?_, HS⟩
                have := HW.out
                show Hid (WR w0 v34 g 65535 (encH p a))
                exact Lib.hid (by simpa only [encH, List.nil_append, List.append_assoc] using this)
theorem encode_any (w : World) (p : PA) (a : Au) (hp : p.rd w) (hf : p.few) (ha : a.ok) : Calls Try.prog 10 #[p.v, a.v] w fun e w' => EncPost w w' p a e := by
  by_cases h : p.typ < 1 ∨ 5 < p.typ
  · exact encode_bad w p a h hp.ok
  · exact encode_good w p a hp hf ha (by omega)
end Go.Proofs.Ytbkejlalbjomkaa
