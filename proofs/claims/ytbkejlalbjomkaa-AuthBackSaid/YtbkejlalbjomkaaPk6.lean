/-
  A writer's length and a number in its place, as its users see them; what a packet's bytes are.
-/
import Derived.Test.YtbkejlalbjomkaaPk5
import Derived.Test.YtbkejlalbjomkaaAutP8
namespace Go.Proofs.Ytbkejlalbjomkaa
set_option linter.unusedVariables false
open Go.RowKit

theorem wi_patch {s : Wr} {M : Int} {ys : List Int} (h : WI s M ys) {a : Nat} {x : Int} {n : Nat} (hn1 : 1 ≤ n) (hn : n ≤ 4) (hf : fitsB x n = true) (hl : a + n ≤ ys.length) : WI (s.patch a x n) M (pat ys a (pb x n) n) := by
  have hp : (pat ys a (pb x n) n).length = ys.length := pat_length hl (by rw [pb_length]; exact Nat.le_refl _)
  rcases h.is with ⟨h1, h2, h3⟩ | ⟨h1, h2⟩
  · have e : s.patch a x n = { s with xs := pat s.xs (a : Int).toNat (pb x (n : Int).toNat) (n : Int).toNat } := by
      rw [Wr.patch, if_pos h2, if_pos ⟨hf, by omega, by rw [h3]; omega⟩]
    rw [Int.toNat_natCast, Int.toNat_natCast, h3] at e
    rw [e]
    exact ⟨h.most, by show ((pat ys a (pb x n) n).length : Int) ≤ M; rw [hp]; exact h1, .inl ⟨by rw [hp]; exact h1, h2, rfl⟩⟩
  · have e : s.patch a x n = s := by rw [Wr.patch, if_neg (by rw [h2]; decide)]
    rw [e]
    exact ⟨h.most, h.le, .inr ⟨by rw [hp]; exact h1, h2⟩⟩
theorem wr_patch (w0 w : World) (g : Nat) (M : Int) (ys : List Int) (h : WR w0 w g M ys) (a : Nat) (x : Int) (n : Nat) (h0 : 0 ≤ x) (h1x : x ≤ 4294967295) (hn1 : 1 ≤ n) (hn : n ≤ 4) (hf : fitsB x n = true) (hl : a + n ≤ ys.length) (ha : a ≤ 1000000) :
    Calls Try.prog 39 #[.pointer (some ⟨g, 0, none⟩), .int .i64 a, .int .u32 x, .int .i64 n] w fun e w' => e = .returned (.tuple #[]) ∧ WR w0 w' g M (pat ys a (pb x n) n) ∧ KeepT w w' := by
  obtain ⟨v, s, h1, h2⟩ := h.ws
  have hm := h.m
  have hle := h2.le
  refine (patch_any _ g v s a x n w h1 h0 h1x (by omega) (by omega) (by omega) (by omega) (by omega)).mono ?_
  rintro e w' ⟨rfl, p⟩
  have hb := WPost.below h1 p
  have hk := WPost.keep h1 p
  obtain ⟨v', h3, _, _⟩ := p
  exact ⟨rfl, ⟨⟨v', _, h3, wi_patch h2 hn1 hn hf hl⟩, h.b.trans hb, hm⟩, hk⟩
theorem wlen_any (w : World) (base g : Nat) (v : Value) (s : Wr) (h : WS base w g v s) :
    Calls Try.prog 40 #[.pointer (some ⟨g, 0, none⟩)] w fun e w' => e = .returned (.int .i64 (s.xs.length : Int)) ∧ ∃ k, w' = w.drewN k := by
  obtain ⟨A0, c0, hv, hc0, hm, hr0⟩ := own_shape h.2.2
  have c0' : w.cell? ⟨g, 0, none⟩ = some (.slice A0 s.xs.length c0) := by rw [h.2.1.cell, hv]; rfl
  have c3 : w.cell? ⟨g, 3, none⟩ = some (.bool true) := by rw [h.2.1.cell]; rfl
  clear h hv hr0
  go_enter Try.func40, Try.ntmps40
  go_wp2
  go_ret
  exact ⟨rfl, 0, rfl⟩
/-- What Len answers. -/
def LenPost (w w' : World) (M : Int) (ys : List Int) (e : Ending) : Prop := ∃ n : Nat, e = .returned (.int .i64 (n : Int)) ∧ (n : Int) ≤ M ∧ ((ys.length : Int) ≤ M → n = ys.length) ∧ ∃ k, w' = w.drewN k
theorem wr_len (w0 w : World) (g : Nat) (M : Int) (ys : List Int) (h : WR w0 w g M ys) :
    Calls Try.prog 40 #[.pointer (some ⟨g, 0, none⟩)] w fun e w' => LenPost w w' M ys e := by
  obtain ⟨v, s, h1, h2⟩ := h.ws
  refine (wlen_any w _ g v s h1).mono ?_
  rintro e w' ⟨rfl, k, rfl⟩
  refine ⟨_, rfl, h2.le, fun hle => ?_, k, rfl⟩
  rcases h2.is with ⟨_, _, k3⟩ | ⟨k1, _⟩
  · rw [k3]
  · omega

/-- What a packet's authentication is. -/
structure Au where
  k : Int
  d0 : Int
  d1 : Int
  d2 : Int
  d3 : Int
  d4 : Int
  d5 : Int
  d6 : Int
  d7 : Int
@[reducible] def Au.C (a : Au) : Array Value := #[.int .u16 a.k, .int .u8 a.d0, .int .u8 a.d1, .int .u8 a.d2, .int .u8 a.d3, .int .u8 a.d4, .int .u8 a.d5, .int .u8 a.d6, .int .u8 a.d7]
@[reducible] def Au.v (a : Au) : Value := .agg a.C
def Au.data (a : Au) : List Int := [a.d0, a.d1, a.d2, a.d3, a.d4, a.d5, a.d6, a.d7]
structure Au.ok (a : Au) : Prop where
  k : 0 ≤ a.k ∧ a.k ≤ 65535
  oct : Oct a.data
/-- The bytes of a packet's head, its length and sum not laid yet. -/
def encH (p : PA) (a : Au) : List Int := [2, p.typ, 0, 0] ++ numB p.router 4 ++ numB p.area 4 ++ [0, 0] ++ numB a.k 2 ++ a.data
theorem encH_len (p : PA) (a : Au) : (encH p a).length = 24 := rfl
def partB (p : PA) : List Int := if p.typ = 1 then helloB p else if p.typ = 2 then descB p else if p.typ = 3 then keysB p.ks else if p.typ = 4 then updB p else hdsB p.hs
def encL (p : PA) (a : Au) : Nat := (encH p a ++ partB p).length
def encB1 (p : PA) (a : Au) : List Int := pat (encH p a ++ partB p) 2 (pb (encL p a) 2) 2
def encS (p : PA) (a : Au) : Int := 65535 - foldS (ws true (sumd (encB1 p a)))
def encB (p : PA) (a : Au) : List Int := if a.k = 2 then encB1 p a else ((encB1 p a).set 12 (encS p a / 256)).set 13 (encS p a % 256)
theorem wordsB_oct {l : List Int} (h : ∀ x ∈ l, 0 ≤ x ∧ x ≤ 4294967295) : Oct (wordsB l) := by
  induction l with
  | nil => exact Oct.of_mem fun x hx => by simp [wordsB] at hx
  | cons x l ih =>
    have e : wordsB (x :: l) = numB x 4 ++ wordsB l := rfl
    rw [e]
    have := h x (List.mem_cons_self ..)
    exact (numB_oct this.1 this.2 4).append (ih fun y hy => h y (List.mem_cons_of_mem _ hy))
theorem hdsB_oct {l : List Hd} (h : ∀ x ∈ l, x.ok) : Oct (hdsB l) := by
  induction l with
  | nil => exact Oct.of_mem fun x hx => by simp [hdsB] at hx
  | cons x l ih =>
    have e : hdsB (x :: l) = hdB x ++ hdsB l := rfl
    rw [e]
    exact (hdB_oct (h x (List.mem_cons_self ..))).append (ih fun y hy => h y (List.mem_cons_of_mem _ hy))
theorem keysB_oct {l : List Ky} (h : ∀ x ∈ l, x.ok) : Oct (keysB l) := by
  induction l with
  | nil => exact Oct.of_mem fun x hx => by simp [keysB] at hx
  | cons x l ih =>
    have e : keysB (x :: l) = keyB x ++ keysB l := rfl
    rw [e]
    have k := h x (List.mem_cons_self ..)
    have := k.t; have := k.id; have := k.adv
    exact (((numB_oct (by omega) (by omega) 4).append (numB_oct (by omega) (by omega) 4)).append (numB_oct (by omega) (by omega) 4)).append (ih fun y hy => h y (List.mem_cons_of_mem _ hy))
theorem statesB_oct {l : List SE} (h : ∀ x ∈ l, x.h.ok ∧ Oct x.B) : Oct (statesB l) := by
  induction l with
  | nil => exact Oct.of_mem fun x hx => by simp [statesB] at hx
  | cons x l ih =>
    have e : statesB (x :: l) = (hdB x.h ++ x.B) ++ statesB l := rfl
    rw [e]
    have k := h x (List.mem_cons_self ..)
    exact ((hdB_oct k.1).append k.2).append (ih fun y hy => h y (List.mem_cons_of_mem _ hy))
theorem two_oct {a b : Int} (ha : 0 ≤ a ∧ a ≤ 255) (hb : 0 ≤ b ∧ b ≤ 255) : Oct [a, b] := Oct.of_mem fun x hx => by
  simp only [List.mem_cons, List.not_mem_nil, or_false] at hx
  omega
theorem partB_oct {p : PA} {w : World} (h : p.ok) (hr : p.rd w) (hf : p.few) : Oct (partB p) := by
  have := h.mask; have := h.ivl; have := h.dead; have := h.dr; have := h.bdr; have := h.mtu; have := h.seq; have := hf.s
  unfold partB
  split
  · exact ((((((numB_oct (by omega) (by omega) 4).append (numB_oct (by omega) (by omega) 2)).append (two_oct h.hopts h.pri)).append (numB_oct (by omega) (by omega) 4)).append (numB_oct (by omega) (by omega) 4)).append (numB_oct (by omega) (by omega) 4)).append (wordsB_oct h.nb)
  · split
    · exact (((numB_oct (by omega) (by omega) 2).append (two_oct h.dopts h.flags)).append (numB_oct (by omega) (by omega) 4)).append (hdsB_oct h.dh)
    · split
      · exact keysB_oct h.ks
      · split
        · exact (numB_oct (by omega) (by omega) 4).append (statesB_oct fun s hs => ⟨(hr.sa s hs).head, (hr.sa s hs).oct⟩)
        · exact hdsB_oct h.hs
theorem encH_oct {p : PA} {a : Au} (h : p.ok) (ha : a.ok) : Oct (encH p a) := by
  have := h.typ; have := h.router; have := h.area; have := ha.k
  refine (((((Oct.of_mem fun x hx => ?_).append (numB_oct (by omega) (by omega) 4)).append (numB_oct (by omega) (by omega) 4)).append (two_oct (by omega) (by omega))).append (numB_oct (by omega) (by omega) 2)).append ha.oct
  simp only [List.mem_cons, List.not_mem_nil, or_false] at hx
  omega
theorem pat_oct {xs ys : List Int} (hx : Oct xs) (hy : Oct ys) (a j : Nat) : Oct (pat xs a ys j) := ((hx.take a).append (hy.take j)).append (hx.drop _)
theorem encB1_oct {p : PA} {a : Au} {w : World} (h : p.ok) (ha : a.ok) (hr : p.rd w) (hf : p.few) : Oct (encB1 p a) := pat_oct ((encH_oct h ha).append (partB_oct h hr hf)) (pb_oct _ _) 2 2
/-- May it be laid? -/
structure EncOk (p : PA) (a : Au) : Prop where
  typ : 1 ≤ p.typ ∧ p.typ ≤ 5
  alone : p.alone
  lens : ∀ s ∈ p.ss, s.h.len = s.n + 20
  kind : a.k ≤ 2
  len : encL p a ≤ 65535
theorem encB1_len (p : PA) (a : Au) : (encB1 p a).length = encL p a := pat_length (by show 2 + 2 ≤ (encH p a ++ partB p).length; rw [List.length_append, encH_len]; omega) (by rw [pb_length]; exact Nat.le_refl _)
theorem encL_ge (p : PA) (a : Au) : 24 ≤ encL p a := by unfold encL; rw [List.length_append, encH_len]; omega
theorem encB_len (p : PA) (a : Au) : (encB p a).length = encL p a := by
  unfold encB
  split
  · exact encB1_len p a
  · rw [List.length_set, List.length_set, encB1_len]
theorem encS_range (p : PA) (a : Au) (h : Oct (encB1 p a)) : 0 ≤ encS p a ∧ encS p a ≤ 65535 := by
  have := foldS_range (ws_nonneg h.sumd true).1
  unfold encS
  omega
def EncPost (w w' : World) (p : PA) (a : Au) (e : Ending) : Prop :=
  (EncOk p a ∧ ∃ u, e = .returned (.tuple #[u, .int .i64 0]) ∧ w'.ownsRow w.heap.size 5 1 u (encL p a) (u8s (encB p a)) ∧ Below w.heap.size w w') ∨
  (¬ EncOk p a ∧ ∃ c : Int, c ≠ 0 ∧ ((p.typ < 1 ∨ 5 < p.typ) → c = 21) ∧ e = .returned (.tuple #[.slice none 0 0, .int .i64 c]) ∧ Below w.heap.size w w')
end Go.Proofs.Ytbkejlalbjomkaa
