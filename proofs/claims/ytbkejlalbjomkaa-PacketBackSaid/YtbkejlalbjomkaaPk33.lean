/-
  What was encoded is decoded as the same: plain laws.
-/
import Derived.Test.YtbkejlalbjomkaaPk32
namespace Go.Proofs.Ytbkejlalbjomkaa
set_option linter.unusedVariables false
open Go.RowKit

theorem flat_len {α : Type} (f : α → List Int) {k : Nat} (hl : ∀ a, (f a).length = k) (L : List α) : (L.flatMap f).length = k * L.length := by
  induction L with
  | nil => simp
  | cons x L ih => rw [List.flatMap_cons, List.length_append, hl, ih, List.length_cons, Nat.mul_succ]; omega
theorem encB_drop (p : PA) (a : Au) : (encB p a).drop 24 = partB p := by rw [encB_form]; rfl
theorem encB_ty (p : PA) (a : Au) : tyAt (encB p a) = p.typ := by
  rw [encB_form]
  show be [p.typ] = p.typ
  simp [be]
theorem encB_kd (p : PA) (a : Au) (h : 0 ≤ a.k ∧ a.k ≤ 65535) : kdAt (encB p a) = a.k := by
  rw [encB_form]
  show be [a.k / 256 % 256, a.k % 256] = a.k
  simp [be]
  omega
theorem encB_router (p : PA) (a : Au) (h : 0 ≤ p.router ∧ p.router ≤ 4294967295) : be (((encB p a).drop 4).take 4) = p.router := by
  rw [encB_form]
  show be (numB p.router 4) = p.router
  exact be_numB4 h.1 (by omega)
theorem encB_area (p : PA) (a : Au) (h : 0 ≤ p.area ∧ p.area ≤ 4294967295) : be (((encB p a).drop 8).take 4) = p.area := by
  rw [encB_form]
  show be (numB p.area 4) = p.area
  exact be_numB4 h.1 (by omega)
theorem encB_au (p : PA) (a : Au) (h : 0 ≤ a.k ∧ a.k ≤ 65535) : auAt (encB p a) = a := by
  unfold auAt
  rw [encB_kd p a h, encB_form]
  rfl
theorem kyAt_keyB {k : Ky} (h : k.ok) (B : List Int) : kyAt (keyB k ++ B) 0 = k := by
  obtain ⟨t, i, v⟩ := k
  have h1 := h.t
  have h2 := h.id
  have h3 := h.adv
  have e1 := be_numB4 h1.1 (by omega)
  have e2 := be_numB4 h2.1 (by omega)
  have e3 := be_numB4 h3.1 (by omega)
  show Ky.mk (be (numB t 4)) (be (numB i 4)) (be (numB v 4)) = _
  rw [e1, e2, e3]
theorem kyAt_keyB' {k : Ky} (h1 : 0 ≤ k.t ∧ k.t < 4294967296) (h2 : 0 ≤ k.id ∧ k.id < 4294967296) (h3 : 0 ≤ k.adv ∧ k.adv < 4294967296) : kyAt (keyB k) 0 = k := by
  obtain ⟨t, i, v⟩ := k
  have e1 := be_numB4 h1.1 h1.2
  have e2 := be_numB4 h2.1 h2.2
  have e3 := be_numB4 h3.1 h3.2
  show Ky.mk (be (numB t 4)) (be (numB i 4)) (be (numB v 4)) = _
  rw [e1, e2, e3]
def Ky.wide (k : Ky) : Prop := (0 ≤ k.t ∧ k.t < 4294967296) ∧ (0 ≤ k.id ∧ k.id < 4294967296) ∧ (0 ≤ k.adv ∧ k.adv < 4294967296)
theorem keys_read {ys : List Int} {L : List Ky} (ho : Oct ys) (hL : ∀ k ∈ L, k.ok) (h : ys.drop 24 = keysB L) (h24 : 24 ≤ ys.length) : (ys.length - 24) % 12 = 0 ∧ kysAt ys 24 ((ys.length - 24) / 12) = L := by
  have hl : (ys.drop 24).length = 12 * L.length := by rw [h]; exact flat_len keyB (fun _ => rfl) L
  rw [List.length_drop] at hl
  refine ⟨by omega, ?_⟩
  refine flat_inj keyB (k := 12) (by decide) (fun _ => rfl) Ky.wide (fun a b ha hb e => ?_) _ _ (fun k hk => ?_) (fun k hk => ?_) ?_
  · rw [← kyAt_keyB' ha.1 ha.2.1 ha.2.2, ← kyAt_keyB' hb.1 hb.2.1 hb.2.2, e]
  · unfold kysAt at hk
    obtain ⟨i, _, rfl⟩ := List.mem_map.1 hk
    have b1 := be_at ho (24 + 12 * i) 4
    have b2 := be_at ho (24 + 12 * i + 4) 4
    have b3 := be_at ho (24 + 12 * i + 8) 4
    rw [show (256 : Int) ^ 4 = 4294967296 from by decide] at b1 b2 b3
    exact ⟨b1, b2, b3⟩
  · have := hL k hk
    have h1 := this.t
    have h2 := this.id
    have h3 := this.adv
    exact ⟨by omega, by omega, by omega⟩
  · rw [show (kysAt ys 24 ((ys.length - 24) / 12)).flatMap keyB = ys.drop 24 from keysB_at ho (by omega), h]
    rfl
theorem heads_read {ys : List Int} {L : List Hd} {pos : Nat} (ho : Oct ys) (hL : ∀ k ∈ L, k.ok) (h : ys.drop pos = hdsB L) (h24 : pos ≤ ys.length) : (ys.length - pos) % 20 = 0 ∧ hdsAt ys pos ((ys.length - pos) / 20) = L := by
  have hl : (ys.drop pos).length = 20 * L.length := by rw [h]; exact flat_len hdB (fun _ => rfl) L
  rw [List.length_drop] at hl
  refine ⟨by omega, ?_⟩
  refine flat_inj hdB (k := 20) (by decide) (fun _ => rfl) Hd.ok (fun a b ha hb e => ?_) _ _ (fun k hk => ?_) hL ?_
  · have h1 := hdAt_hdB ha []
    have h2 := hdAt_hdB hb []
    rw [List.append_nil] at h1 h2
    rw [← h1, ← h2, e]
  · unfold hdsAt at hk
    obtain ⟨i, _, rfl⟩ := List.mem_map.1 hk
    exact hdAt_ok ho _
  · rw [show (hdsAt ys pos ((ys.length - pos) / 20)).flatMap hdB = ys.drop pos from hdsB_at ho (by omega), h]
    rfl
theorem words_read {ys : List Int} {L : List Int} {pos : Nat} (ho : Oct ys) (hL : ∀ k ∈ L, 0 ≤ k ∧ k ≤ 4294967295) (h : ys.drop pos = wordsB L) (h24 : pos ≤ ys.length) : (ys.length - pos) % 4 = 0 ∧ wordsAt ys pos ((ys.length - pos) / 4) = L := by
  have hl : (ys.drop pos).length = 4 * L.length := by rw [h]; exact flat_len (fun x => numB x 4) (fun _ => rfl) L
  rw [List.length_drop] at hl
  refine ⟨by omega, ?_⟩
  refine flat_inj (fun x => numB x 4) (k := 4) (by decide) (fun _ => rfl) (fun x => 0 ≤ x ∧ x < 4294967296) (fun a b ha hb e => ?_) _ _ (fun k hk => ?_) (fun k hk => ?_) ?_
  · rw [← be_numB4 ha.1 ha.2, ← be_numB4 hb.1 hb.2, e]
  · unfold wordsAt at hk
    obtain ⟨i, _, rfl⟩ := List.mem_map.1 hk
    have b1 := be_at ho (pos + 4 * i) 4
    exact ⟨b1.1, by have := b1.2; simpa using this⟩
  · have := hL k hk
    omega
  · rw [show (wordsAt ys pos ((ys.length - pos) / 4)).flatMap (fun x => numB x 4) = ys.drop pos from wordsB_at ho (by omega), h]
    rfl
theorem drop_more {ys z : List Int} {a : Nat} (h : ys.drop 24 = z) : ys.drop (24 + a) = z.drop a := by rw [← h, List.drop_drop]
/-- What a packet's lists are, beside its numbers. -/
structure Enc (p : PA) (a : Au) : Prop where
  e : EncOk p a
  ok : p.ok
  au : a.ok
  o : Oct (encB1 p a)
  s : ∀ s ∈ p.ss, s.B.length = s.n ∧ s.h.ok
theorem Enc.oct {p : PA} {a : Au} (h : Enc p a) : Oct (encB p a) := encB_oct h.e h.o
theorem Enc.upd {p : PA} {a : Au} (h : Enc p a) (t : p.typ = 4) : be (((encB p a).drop 24).take 4) = p.sn ∧ (encB p a).drop (24 + 4) = (p.ss.map SE.hb).flatMap hbB := by
    have hp := encL_part p a
    have hd := encB_drop p a
    have e : partB p = updB p := by unfold partB; rw [if_neg (by omega), if_neg (by omega), if_neg (by omega), if_pos t]
    rw [e] at hd
    have l4 : 4 ≤ (partB p).length := by
      rw [e]
      unfold updB
      rw [List.length_append]
      show 4 ≤ 4 + _
      omega
    have e2 : be (((encB p a).drop 24).take 4) = p.sn := by
      rw [hd]
      show be (numB p.sn 4) = p.sn
      have hsz : p.ss.length ≤ (statesB p.ss).length := by
        unfold statesB
        have : ∀ L : List SE, L.length ≤ (L.flatMap stB).length := fun L => by
          induction L with
          | nil => simp
          | cons x L ih =>
            rw [List.flatMap_cons, List.length_append, List.length_cons]
            have : 20 ≤ (stB x).length := by
              show 20 ≤ (hdB x.h ++ x.B).length
              rw [List.length_append, hdB_len20]
              omega
            omega
        exact this _
      have hul : (updB p).length = 4 + (statesB p.ss).length := by
        unfold updB
        rw [List.length_append]
        rfl
      have := h.e.len
      have := h.ok.sl
      rw [e] at hp
      exact be_numB4 (by omega) (by omega)
    have e3 : (encB p a).drop (24 + 4) = (p.ss.map SE.hb).flatMap hbB := by
      rw [drop_more hd, ← statesB_hb]
      rfl
    exact ⟨e2, e3⟩
theorem Enc.part {p : PA} {a : Au} (h : Enc p a) : partOk (encB p a) p.typ := by
  have hl := encB_len p a
  have hp := encL_part p a
  have hd := encB_drop p a
  have ho := h.oct
  have ht := h.e.typ
  constructor
  · intro t
    have e : partB p = helloB p := by unfold partB; rw [if_pos t]
    have l : (helloB p).length = 20 + 4 * p.nb.length := by
      unfold helloB
      rw [List.length_append, show (wordsB p.nb).length = 4 * p.nb.length from flat_len (fun x => numB x 4) (fun _ => rfl) p.nb]
      rfl
    rw [e, l] at hp
    exact ⟨by omega, by omega⟩
  · intro t
    have e : partB p = descB p := by unfold partB; rw [if_neg (by omega), if_pos t]
    have l : (descB p).length = 8 + 20 * p.dh.length := by
      unfold descB
      rw [List.length_append, show (hdsB p.dh).length = 20 * p.dh.length from flat_len hdB (fun _ => rfl) p.dh]
      rfl
    rw [e, l] at hp
    exact ⟨by omega, by omega⟩
  · intro t
    have e : partB p = keysB p.ks := by unfold partB; rw [if_neg (by omega), if_neg (by omega), if_pos t]
    rw [e] at hd
    obtain ⟨k1, k2⟩ := keys_read ho h.ok.ks hd (by omega)
    exact ⟨k1, fun k hk => by rw [k2] at hk; exact (h.ok.ks k hk).t.2⟩
  · intro t
    have e : partB p = updB p := by unfold partB; rw [if_neg (by omega), if_neg (by omega), if_neg (by omega), if_pos t]
    obtain ⟨e2, e3⟩ := h.upd t
    have l4 : 4 ≤ (partB p).length := by
      rw [e]
      unfold updB
      rw [List.length_append]
      show 4 ≤ 4 + _
      omega
    refine ⟨by omega, p.ss.map SE.hb, ?_⟩
    rw [e2, e3, Int.toNat_natCast, show p.sn = (p.ss.map SE.hb).length by rw [List.length_map]; exact h.ok.sl.symm]
    refine upS_of _ fun x hx => ?_
    obtain ⟨s, hs, rfl⟩ := List.mem_map.1 hx
    obtain ⟨k1, k2⟩ := h.s s hs
    refine ⟨k2, ?_⟩
    have := h.e.lens s hs
    show s.h.len = s.B.length + 20
    rw [k1]
    exact this
  · intro t
    have e : partB p = hdsB p.hs := by unfold partB; rw [if_neg (by omega), if_neg (by omega), if_neg (by omega), if_neg (by omega)]
    rw [e] at hd
    exact (heads_read ho h.ok.hs hd (by omega)).1
/-- What was encoded is a packet. -/
theorem Enc.dec {p : PA} {a : Au} (h : Enc p a) : DecOk (encB p a) := by
  have hl := encB_len p a
  refine ⟨by rw [enc_pkLen p a h.e], ?_, ?_, ?_, ?_⟩
  · rw [encB_kd p a h.au.k]; exact h.e.kind
  · intro _
    rw [enc_pkLen p a h.e, hl]
  · intro hk
    rw [encB_kd p a h.au.k] at hk
    exact enc_right p a h.e hk h.o
  · rw [enc_pkB p a h.e, encB_ty]
    exact h.part
theorem nb_nil {p : PA} (h : p.ok) (h0 : p.nn = 0) : p.nb = [] := List.eq_nil_of_length_eq_zero (by rw [h.nl, h0])
theorem noHe {p : PA} (h : p.ok) (hs : ¬ p.helloS) : p.mask = 0 ∧ p.ivl = 0 ∧ p.hopts = 0 ∧ p.pri = 0 ∧ p.dead = 0 ∧ p.dr = 0 ∧ p.bdr = 0 ∧ p.nb = [] := by
  unfold PA.helloS at hs
  rw [Decidable.not_not] at hs
  obtain ⟨h1, h2, h3, h4, h5, h6, h7, h8⟩ := hs
  exact ⟨h1, h2, h3, h4, h5, h6, h7, nb_nil h h8⟩
theorem noDe {p : PA} (h : p.ok) (hs : ¬ p.ddS) : p.mtu = 0 ∧ p.dopts = 0 ∧ p.flags = 0 ∧ p.seq = 0 ∧ p.dh = [] := by
  unfold PA.ddS at hs
  rw [Decidable.not_not] at hs
  obtain ⟨h1, h2, h3, h4, h5⟩ := hs
  exact ⟨h1, h2, h3, h4, List.eq_nil_of_length_eq_zero (by rw [h.dl, h5])⟩
/-- What was encoded is decoded as the same. -/
theorem Enc.same {p q : PA} {a : Au} (h : Enc p a) (hq : PIs (pkB (encB p a)) (tyAt (encB p a)) (be (((encB p a).drop 4).take 4)) (be (((encB p a).drop 8).take 4)) q) : EqPa q p := by
  have hl := encB_len p a
  have hp := encL_part p a
  have hd := encB_drop p a
  have ho := h.oct
  have ht := h.e.typ
  rw [enc_pkB p a h.e, encB_ty, encB_router p a h.ok.router, encB_area p a h.ok.area] at hq
  obtain ⟨ys, hys⟩ : ∃ ys, encB p a = ys := ⟨_, rfl⟩
  rw [hys] at hl hd ho hq
  have al := h.e.alone
  have nH : p.typ ≠ 1 → _ := fun n => noHe h.ok (fun c => n (al.1 c))
  have nD : p.typ ≠ 2 → _ := fun n => noDe h.ok (fun c => n (al.2.1 c))
  have nK : p.typ ≠ 3 → p.ks = [] := fun n => List.eq_nil_of_length_eq_zero (by rw [h.ok.kl]; have := al.2.2.1; omega)
  have nS : p.typ ≠ 4 → p.ss = [] := fun n => List.eq_nil_of_length_eq_zero (by rw [h.ok.sl]; have := al.2.2.2.1; omega)
  have nA : p.typ ≠ 5 → p.hs = [] := fun n => List.eq_nil_of_length_eq_zero (by rw [h.ok.hl]; have := al.2.2.2.2; omega)
  obtain ⟨q1, q2, q3⟩ := hq.typ
  refine ⟨q1, q2, q3, ?_⟩
  unfold EqHe EqDe
  rcases hq with ⟨t, e⟩ | ⟨t, e⟩ | ⟨t, e⟩ | ⟨t, hu, _, e⟩ | ⟨t, e⟩
  · obtain ⟨d1, d2, d3, d4, d5⟩ := nD (by omega)
    have eb : partB p = helloB p := by unfold partB; rw [if_pos t]
    rw [eb] at hd hp
    have hw : ys.drop (24 + 20) = wordsB p.nb := by rw [drop_more hd]; rfl
    have hll : 20 ≤ (helloB p).length := by
      unfold helloB
      rw [List.length_append]
      show 20 ≤ 20 + _
      omega
    have m1 : q.mask = p.mask := by
      rw [show q.mask = be ((ys.drop 24).take 4) from congrArg PA.mask e, hd]
      show be (numB p.mask 4) = p.mask
      exact be_numB4 h.ok.mask.1 (by have := h.ok.mask; omega)
    have m2 : q.ivl = p.ivl := by
      rw [show q.ivl = be ((ys.drop (24 + 4)).take 2) from congrArg PA.ivl e, drop_more hd]
      show be (numB p.ivl 2) = p.ivl
      exact be_numB2 h.ok.ivl.1 (by have := h.ok.ivl; omega)
    have m3 : q.hopts = p.hopts := by
      rw [show q.hopts = be ((ys.drop (24 + 6)).take 1) from congrArg PA.hopts e, drop_more hd]
      show be [p.hopts] = p.hopts
      simp [be]
    have m4 : q.pri = p.pri := by
      rw [show q.pri = be ((ys.drop (24 + 7)).take 1) from congrArg PA.pri e, drop_more hd]
      show be [p.pri] = p.pri
      simp [be]
    have m5 : q.dead = p.dead := by
      rw [show q.dead = be ((ys.drop (24 + 8)).take 4) from congrArg PA.dead e, drop_more hd]
      show be (numB p.dead 4) = p.dead
      exact be_numB4 h.ok.dead.1 (by have := h.ok.dead; omega)
    have m6 : q.dr = p.dr := by
      rw [show q.dr = be ((ys.drop (24 + 12)).take 4) from congrArg PA.dr e, drop_more hd]
      show be (numB p.dr 4) = p.dr
      exact be_numB4 h.ok.dr.1 (by have := h.ok.dr; omega)
    have m7 : q.bdr = p.bdr := by
      rw [show q.bdr = be ((ys.drop (24 + 16)).take 4) from congrArg PA.bdr e, drop_more hd]
      show be (numB p.bdr 4) = p.bdr
      exact be_numB4 h.ok.bdr.1 (by have := h.ok.bdr; omega)
    have m8 : q.nb = p.nb := (congrArg PA.nb e).trans (words_read ho h.ok.nb hw (by omega)).2
    exact ⟨⟨m1, m2, m3, m4, m5, m6, m7, m8⟩, ⟨(congrArg PA.mtu e).trans d1.symm, (congrArg PA.dopts e).trans d2.symm, (congrArg PA.flags e).trans d3.symm, (congrArg PA.seq e).trans d4.symm, (congrArg PA.dh e).trans d5.symm⟩, (congrArg PA.ks e).trans (nK (by omega)).symm, (by rw [nS (by omega), show q.ss = [] from congrArg PA.ss e]), (congrArg PA.hs e).trans (nA (by omega)).symm⟩
  · obtain ⟨c1, c2, c3, c4, c5, c6, c7, c8⟩ := nH (by omega)
    have eb : partB p = descB p := by unfold partB; rw [if_neg (by omega), if_pos t]
    rw [eb] at hd hp
    have hw : ys.drop (24 + 8) = hdsB p.dh := by rw [drop_more hd]; rfl
    have hll : 8 ≤ (descB p).length := by
      unfold descB
      rw [List.length_append]
      show 8 ≤ 8 + _
      omega
    have m1 : q.mtu = p.mtu := by
      rw [show q.mtu = be ((ys.drop 24).take 2) from congrArg PA.mtu e, hd]
      show be (numB p.mtu 2) = p.mtu
      exact be_numB2 h.ok.mtu.1 (by have := h.ok.mtu; omega)
    have m2 : q.dopts = p.dopts := by
      rw [show q.dopts = be ((ys.drop (24 + 2)).take 1) from congrArg PA.dopts e, drop_more hd]
      show be [p.dopts] = p.dopts
      simp [be]
    have m3 : q.flags = p.flags := by
      rw [show q.flags = be ((ys.drop (24 + 3)).take 1) from congrArg PA.flags e, drop_more hd]
      show be [p.flags] = p.flags
      simp [be]
    have m4 : q.seq = p.seq := by
      rw [show q.seq = be ((ys.drop (24 + 4)).take 4) from congrArg PA.seq e, drop_more hd]
      show be (numB p.seq 4) = p.seq
      exact be_numB4 h.ok.seq.1 (by have := h.ok.seq; omega)
    have m5 : q.dh = p.dh := (congrArg PA.dh e).trans (heads_read ho h.ok.dh hw (by omega)).2
    exact ⟨⟨(congrArg PA.mask e).trans c1.symm, (congrArg PA.ivl e).trans c2.symm, (congrArg PA.hopts e).trans c3.symm, (congrArg PA.pri e).trans c4.symm, (congrArg PA.dead e).trans c5.symm, (congrArg PA.dr e).trans c6.symm, (congrArg PA.bdr e).trans c7.symm, (congrArg PA.nb e).trans c8.symm⟩, ⟨m1, m2, m3, m4, m5⟩, (congrArg PA.ks e).trans (nK (by omega)).symm, (by rw [nS (by omega), show q.ss = [] from congrArg PA.ss e]), (congrArg PA.hs e).trans (nA (by omega)).symm⟩
  · obtain ⟨c1, c2, c3, c4, c5, c6, c7, c8⟩ := nH (by omega)
    obtain ⟨d1, d2, d3, d4, d5⟩ := nD (by omega)
    have eb : partB p = keysB p.ks := by unfold partB; rw [if_neg (by omega), if_neg (by omega), if_pos t]
    rw [eb] at hd
    exact ⟨⟨(congrArg PA.mask e).trans c1.symm, (congrArg PA.ivl e).trans c2.symm, (congrArg PA.hopts e).trans c3.symm, (congrArg PA.pri e).trans c4.symm, (congrArg PA.dead e).trans c5.symm, (congrArg PA.dr e).trans c6.symm, (congrArg PA.bdr e).trans c7.symm, (congrArg PA.nb e).trans c8.symm⟩, ⟨(congrArg PA.mtu e).trans d1.symm, (congrArg PA.dopts e).trans d2.symm, (congrArg PA.flags e).trans d3.symm, (congrArg PA.seq e).trans d4.symm, (congrArg PA.dh e).trans d5.symm⟩, (congrArg PA.ks e).trans (keys_read ho h.ok.ks hd (by omega)).2, (by rw [nS (by omega), show q.ss = [] from congrArg PA.ss e]), (congrArg PA.hs e).trans (nA (by omega)).symm⟩
  · obtain ⟨c1, c2, c3, c4, c5, c6, c7, c8⟩ := nH (by omega)
    obtain ⟨d1, d2, d3, d4, d5⟩ := nD (by omega)
    have hsp : be ((ys.drop 24).take 4) = p.sn ∧ ys.drop (24 + 4) = (p.ss.map SE.hb).flatMap hbB := by
      obtain ⟨g1, g2⟩ := h.upd t
      rw [hys] at g1 g2
      exact ⟨g1, g2⟩
    rw [hsp.1, hsp.2, Int.toNat_natCast, show p.sn = (p.ss.map SE.hb).length by rw [List.length_map]; exact h.ok.sl.symm, upS_of _ fun x hx => by
      obtain ⟨s, hs, rfl⟩ := List.mem_map.1 hx
      obtain ⟨k1, k2⟩ := h.s s hs
      refine ⟨k2, ?_⟩
      have := h.e.lens s hs
      show s.h.len = s.B.length + 20
      rw [k1]
      exact this] at hu
    injection hu with hu
    exact ⟨⟨(congrArg PA.mask e).trans c1.symm, (congrArg PA.ivl e).trans c2.symm, (congrArg PA.hopts e).trans c3.symm, (congrArg PA.pri e).trans c4.symm, (congrArg PA.dead e).trans c5.symm, (congrArg PA.dr e).trans c6.symm, (congrArg PA.bdr e).trans c7.symm, (congrArg PA.nb e).trans c8.symm⟩, ⟨(congrArg PA.mtu e).trans d1.symm, (congrArg PA.dopts e).trans d2.symm, (congrArg PA.flags e).trans d3.symm, (congrArg PA.seq e).trans d4.symm, (congrArg PA.dh e).trans d5.symm⟩, (congrArg PA.ks e).trans (nK (by omega)).symm, hu.symm, (congrArg PA.hs e).trans (nA (by omega)).symm⟩
  · obtain ⟨c1, c2, c3, c4, c5, c6, c7, c8⟩ := nH (by omega)
    obtain ⟨d1, d2, d3, d4, d5⟩ := nD (by omega)
    have eb : partB p = hdsB p.hs := by unfold partB; rw [if_neg (by omega), if_neg (by omega), if_neg (by omega), if_neg (by omega)]
    rw [eb] at hd
    exact ⟨⟨(congrArg PA.mask e).trans c1.symm, (congrArg PA.ivl e).trans c2.symm, (congrArg PA.hopts e).trans c3.symm, (congrArg PA.pri e).trans c4.symm, (congrArg PA.dead e).trans c5.symm, (congrArg PA.dr e).trans c6.symm, (congrArg PA.bdr e).trans c7.symm, (congrArg PA.nb e).trans c8.symm⟩, ⟨(congrArg PA.mtu e).trans d1.symm, (congrArg PA.dopts e).trans d2.symm, (congrArg PA.flags e).trans d3.symm, (congrArg PA.seq e).trans d4.symm, (congrArg PA.dh e).trans d5.symm⟩, (congrArg PA.ks e).trans (nK (by omega)).symm, (by rw [nS (by omega), show q.ss = [] from congrArg PA.ss e]), (congrArg PA.hs e).trans (heads_read ho h.ok.hs hd (by omega)).2⟩
end Go.Proofs.Ytbkejlalbjomkaa
