/-
  octet's writer and reader, as their users see them: what is laid in all, and whether it was too much; what is read.
-/
import Derived.Test.YtbkejlalbjomkaaOctA3
namespace Go.Proofs.Ytbkejlalbjomkaa
set_option linter.unusedVariables false
open Go.RowKit

/-- A writer of limit M in which ys were laid: they are there, or they were too many. -/
structure WI (s : Wr) (M : Int) (ys : List Int) : Prop where
  most : s.most = M
  le : (s.xs.length : Int) ≤ M
  is : ((ys.length : Int) ≤ M ∧ s.e = 0 ∧ s.xs = ys) ∨ (M < ys.length ∧ s.e = 11)
theorem WI.new {M : Int} (h : 0 ≤ M) : WI ⟨M, 0, []⟩ M [] := ⟨rfl, by simpa using h, .inl ⟨by simpa using h, rfl, rfl⟩⟩
theorem WI.put {s : Wr} {M : Int} {ys : List Int} (h : WI s M ys) (zs : List Int) : WI (s.put zs) M (ys ++ zs) := by
  have hm := h.most
  rcases h.is with ⟨h1, h2, h3⟩ | ⟨h1, h2⟩
  · unfold Wr.put
    rw [if_pos h2]
    split
    · rename_i hgt
      rw [h3, hm] at hgt
      exact ⟨hm, h.le, .inr ⟨by rw [List.length_append]; omega, rfl⟩⟩
    · rename_i hgt
      rw [h3, hm] at hgt
      exact ⟨hm, by rw [h3, List.length_append]; omega, .inl ⟨by rw [List.length_append]; omega, h2, by rw [h3]⟩⟩
  · unfold Wr.put
    rw [if_neg (by rw [h2]; decide)]
    exact ⟨hm, h.le, .inr ⟨by rw [List.length_append]; omega, h2⟩⟩
/-- A number's bytes. -/
def numB (x : Int) (n : Nat) : List Int := (four x).drop (4 - n)
theorem numB_len (x : Int) {n : Nat} (h : n ≤ 4) : (numB x n).length = n := by
  unfold numB
  rw [List.length_drop]
  show 4 - (4 - n) = n
  omega
theorem numB_oct {x : Int} (h0 : 0 ≤ x) (h1 : x ≤ 4294967295) (n : Nat) : Oct (numB x n) := (four_oct x h0 h1).drop _
theorem fits_of {x : Int} {n : Nat} (h1 : 1 ≤ n) (h4 : n ≤ 4) (h : n = 4 ∨ x / 2 ^ (8 * n) = 0) : fitsB x n = true := by
  unfold fitsB
  simp only [Bool.and_eq_true, Bool.or_eq_true, decide_eq_true_eq, beq_iff_eq]
  refine ⟨⟨by omega, by omega⟩, ?_⟩
  rcases h with h | h
  · exact .inl (by omega)
  · refine .inr ?_
    rw [show (8 * (n : Int)).toNat = 8 * n by omega]
    exact h
theorem WI.num {s : Wr} {M : Int} {ys : List Int} (h : WI s M ys) {x : Int} {n : Nat} (hn : n ≤ 4) (hf : fitsB x n = true) : WI (s.num x n) M (ys ++ numB x n) := by
  have hp := h.put (numB x n)
  rcases h.is with ⟨h1, h2, h3⟩ | ⟨h1, h2⟩
  · unfold Wr.num
    rw [if_pos h2, if_pos hf]
    have : (4 - (n : Int)).toNat = 4 - n := by omega
    rw [this]
    exact hp
  · unfold Wr.num
    rw [if_neg (by rw [h2]; decide)]
    unfold Wr.put at hp
    rwa [if_neg (by rw [h2]; decide)] at hp
/-- A writer in memory, new since w0. -/
structure WR (w0 w : World) (g : Nat) (M : Int) (ys : List Int) : Prop where
  ws : ∃ v s, WS w0.heap.size w g v s ∧ WI s M ys
  b : Below w0.heap.size w0 w
  m : 0 ≤ M ∧ M ≤ 1099511627776
/-- Blocks of other types stay. -/
def KeepT (w w' : World) : Prop := w.heap.size ≤ w'.heap.size ∧ ∀ q t cs, Blk w q t cs → t ≠ 124 → t ≠ 5 → Blk w' q t cs
theorem KeepT.refl (w : World) : KeepT w w := ⟨Nat.le_refl _, fun _ _ _ h _ _ => h⟩
theorem KeepT.trans {a b c : World} (h : KeepT a b) (k : KeepT b c) : KeepT a c := ⟨Nat.le_trans h.1 k.1, fun q t cs hb h1 h2 => k.2 q t cs (h.2 q t cs hb h1 h2) h1 h2⟩
theorem KeepT.of_below {w w' : World} (h : Below w.heap.size w w') : KeepT w w' := ⟨h.size, fun _ _ _ hb _ _ => hb.later h⟩
theorem WPost.keep {base g : Nat} {w w' : World} {v : Value} {s s' : Wr} (h : WS base w g v s) (p : WPost base w w' g v s') : KeepT w w' := by
  obtain ⟨v', _, k, _⟩ := p
  refine ⟨k.size, fun q t cs hb h1 h2 => hb.kept k fun hq => ?_⟩
  rcases hq with rfl | hq
  · have : some (Obj.cells cs t (0, 0)) = some (Obj.cells _ 124 (0, 0)) := hb.symm.trans h.2.1
    injection this with this
    injection this with _ this
    exact h1 this
  · exact own_blk_ne h.2.2 hb (Ne.symm h2) hq
theorem WR.alloc {w0 w : World} {g : Nat} {M : Int} {ys : List Int} (h : WR w0 w g M ys) (o : Obj) : WR w0 (w.alloc o) g M ys := by
  obtain ⟨v, s, h1, h2⟩ := h.ws
  exact ⟨⟨v, s, h1.alloc o, h2⟩, h.b.alloc h.b.size o, h.m⟩
theorem WR.drewN {w0 w : World} {g : Nat} {M : Int} {ys : List Int} (h : WR w0 w g M ys) (k : Nat) : WR w0 (w.drewN k) g M ys := by
  obtain ⟨v, s, h1, h2⟩ := h.ws
  exact ⟨⟨v, s, h1.drewN k, h2⟩, below_drewN h.b k, h.m⟩
theorem WR.drew {w0 w : World} {g : Nat} {M : Int} {ys : List Int} (h : WR w0 w g M ys) : WR w0 w.drew g M ys := h.drewN 1
theorem WR.later {w0 w w' : World} {g : Nat} {M : Int} {ys : List Int} (h : WR w0 w g M ys) (hb : Below w.heap.size w w') : WR w0 w' g M ys := by
  obtain ⟨v, s, ⟨h1, h2, h3⟩, h4⟩ := h.ws
  exact ⟨⟨v, s, ⟨h1, h2.later hb, own_kept h3 (Kept.of_new hb (fun _ => False)) (fun _ _ h => h)⟩, h4⟩, below_then h.b hb, h.m⟩
theorem wr_new (m : Int) (w : World) (h0 : 0 ≤ m) (h1 : m ≤ 1099511627776) :
    Calls Try.prog 31 #[.int .i64 m] w fun e w' => ∃ g, e = .returned (.pointer (some ⟨g, 0, none⟩)) ∧ WR w w' g m [] ∧ w.heap.size ≤ g ∧ g < w'.heap.size := by
  refine (write_any m w (by omega) (by omega)).mono ?_
  rintro e w' ⟨g, rfl, h, hb⟩
  have hm : max m 0 = m := by omega
  rw [hm] at h
  exact ⟨g, rfl, ⟨⟨_, _, h, WI.new h0⟩, hb, h0, h1⟩, h.1, h.2.1.lt⟩
theorem wr_put (w0 w : World) (g : Nat) (M : Int) (ys zs : List Int) (h : WR w0 w g M ys) (A : Option Addr) (n c : Nat) (hy : Reads w w.heap.size 1 A n (u8s zs)) (hn : n ≤ 70368744177664) :
    Calls Try.prog 32 #[.pointer (some ⟨g, 0, none⟩), .slice A n c] w fun e w' => e = .returned (.pointer (some ⟨g, 0, none⟩)) ∧ WR w0 w' g M (ys ++ zs) ∧ KeepT w w' := by
  obtain ⟨v, s, h1, h2⟩ := h.ws
  have hm := h.m
  have hl := h2.le
  have hmo := h2.most
  refine (put_any _ g v s A n c zs w h1 hy (by omega) (by omega) (by omega)).mono ?_
  rintro e w' ⟨rfl, p⟩
  have hb := WPost.below h1 p
  have hk := WPost.keep h1 p
  obtain ⟨v', h3, _, _⟩ := p
  exact ⟨rfl, ⟨⟨v', _, h3, h2.put zs⟩, h.b.trans hb, hm⟩, hk⟩
theorem wr_num (w0 w : World) (g : Nat) (M : Int) (ys : List Int) (h : WR w0 w g M ys) (x : Int) (n : Nat) (h0 : 0 ≤ x) (h1x : x ≤ 4294967295) (hn : n ≤ 4) (hf : fitsB x n = true) :
    Calls Try.prog 33 #[.pointer (some ⟨g, 0, none⟩), .int .u32 x, .int .i64 n] w fun e w' => e = .returned (.pointer (some ⟨g, 0, none⟩)) ∧ WR w0 w' g M (ys ++ numB x n) ∧ KeepT w w' := by
  obtain ⟨v, s, h1, h2⟩ := h.ws
  have hm := h.m
  have hl := h2.le
  have hmo := h2.most
  refine (num_any _ g v s x n w h1 h0 h1x (by omega) (by omega) (by omega) (by omega) (by omega)).mono ?_
  rintro e w' ⟨rfl, p⟩
  have hb := WPost.below h1 p
  have hk := WPost.keep h1 p
  obtain ⟨v', h3, _, _⟩ := p
  exact ⟨rfl, ⟨⟨v', _, h3, h2.num hn hf⟩, h.b.trans hb, hm⟩, hk⟩
/-- A number is laid while something new stands beside. -/
theorem wr_num_x (w0 w : World) (g : Nat) (M : Int) (ys : List Int) (h : WR w0 w g M ys) (o : Obj) (x : Int) (n : Nat) (h0 : 0 ≤ x) (h1x : x ≤ 4294967295) (hn : n ≤ 4) (hf : fitsB x n = true) :
    Calls Try.prog 33 #[.pointer (some ⟨g, 0, none⟩), .int .u32 x, .int .i64 n] (w.alloc o) fun e w' => e = .returned (.pointer (some ⟨g, 0, none⟩)) ∧ WR w0 w' g M (ys ++ numB x n) ∧ KeepT (w.alloc o) w' ∧ w'.heap[w.heap.size]? = some o := by
  have hA := h.alloc o
  obtain ⟨v, s, h1, h2⟩ := h.ws
  have hm := h.m
  have hl := h2.le
  have hmo := h2.most
  have h1a := h1.alloc o
  refine (num_any _ g v s x n (w.alloc o) h1a h0 h1x (by omega) (by omega) (by omega) (by omega) (by omega)).mono ?_
  rintro e w' ⟨rfl, p⟩
  have hb := WPost.below h1a p
  have hk := WPost.keep h1a p
  obtain ⟨v', h3, k, _⟩ := p
  refine ⟨rfl, ⟨⟨v', _, h3, h2.num hn hf⟩, hA.b.trans hb, hm⟩, hk, ?_⟩
  rw [k.block w.heap.size (by rw [World.size_alloc]; omega) (fun hq => ?_)]
  · exact heap_alloc_new w o
  · rcases hq with hq | hq
    · have := h1.2.1.lt; omega
    · have := (own_ge h1.2.2 hq).2; omega
theorem wr_done_yes (w0 w : World) (g : Nat) (M : Int) (ys : List Int) (h : WR w0 w g M ys) (hl : (ys.length : Int) ≤ M) :
    Calls Try.prog 41 #[.pointer (some ⟨g, 0, none⟩)] w fun e w' => ∃ u, e = .returned (.tuple #[u, .int .i64 0]) ∧ w'.ownsRow w.heap.size 5 1 u ys.length (u8s ys) ∧ Below w.heap.size w w' := by
  obtain ⟨v, s, h1, h2⟩ := h.ws
  have hm := h.m
  have hl2 := h2.le
  refine (done_any _ g v s w h1 (by omega)).mono ?_
  rintro e w' ⟨u, rfl, h3, h4⟩
  rcases h2.is with ⟨_, k2, k3⟩ | ⟨k1, _⟩
  · rw [if_pos k2, k3] at h3
    rw [k2]
    exact ⟨u, rfl, h3, h4⟩
  · omega
theorem wr_done_no (w0 w : World) (g : Nat) (M : Int) (ys : List Int) (h : WR w0 w g M ys) (hl : M < ys.length) :
    Calls Try.prog 41 #[.pointer (some ⟨g, 0, none⟩)] w fun e w' => e = .returned (.tuple #[.slice none 0 0, .int .i64 11]) ∧ Below w.heap.size w w' := by
  obtain ⟨v, s, h1, h2⟩ := h.ws
  have hm := h.m
  have hl2 := h2.le
  refine (done_any _ g v s w h1 (by omega)).mono ?_
  rintro e w' ⟨u, rfl, h3, h4⟩
  rcases h2.is with ⟨k1, _, _⟩ | ⟨_, k2⟩
  · omega
  · rw [if_neg (by rw [k2]; decide)] at h3
    rw [k2, h3]
    exact ⟨rfl, h4⟩
/-- Where a reader's bytes stand. -/
structure Rq where
  A : Option Addr
  n : Nat
  c : Nat
/-- A reader in memory, new since w0. -/
structure RR (w0 w : World) (g : Nat) (q : Rq) (s : Rd) : Prop where
  rs : RS w g q.A q.n q.c s
  oct : Oct s.xs
  g0 : w0.heap.size ≤ g
  b : Below w0.heap.size w0 w
theorem rnext_xs (s : Rd) (k : Int) : (s.next k).2.xs = s.xs := by unfold Rd.next; (repeat' split) <;> rfl
theorem rnum_xs (s : Rd) (k : Int) : (s.num k).2.xs = s.xs := rnext_xs s _
theorem RR.later {w0 w w' : World} {g : Nat} {q : Rq} {s : Rd} (h : RR w0 w g q s) (hb : Below w.heap.size w w') : RR w0 w' g q s := ⟨h.rs.later hb, h.oct, h.g0, below_then h.b hb⟩
theorem RR.drewN {w0 w : World} {g : Nat} {q : Rq} {s : Rd} (h : RR w0 w g q s) (k : Nat) : RR w0 (w.drewN k) g q s := ⟨h.rs.drewN k, h.oct, h.g0, below_drewN h.b k⟩
/-- Something else, that is newer than the reader, is written. -/
theorem RR.kept {R : Nat → Prop} {w0 w w' : World} {g : Nat} {q : Rq} {s : Rd} (h : RR w0 w g q s) (k : Kept R w w') (hg : ¬ R g) (hA : 0 < q.n → ∀ ad, q.A = some ad → ¬ R ad.block) (h0 : ∀ i, R i → w0.heap.size ≤ i) : RR w0 w' g q s :=
  ⟨h.rs.kept k hg hA, h.oct, h.g0, h.b.trans (k.below h0 h.b.size)⟩
theorem rr_new (A : Option Addr) (n c : Nat) (xs : List Int) (w : World) (hx : Reads w w.heap.size 1 A n (u8s xs)) (ho : Oct xs) (hn : n ≤ 140737488355328) :
    Calls Try.prog 50 #[.slice A n c] w fun e w' => ∃ g q, e = .returned (.pointer (some ⟨g, 0, none⟩)) ∧ RR w w' g q ⟨xs, 0, 0⟩ := by
  refine (read_any A n c xs w hx hn).mono ?_
  rintro e w' ⟨g, A', c', rfl, h1, h2, h3⟩
  exact ⟨g, ⟨A', n, c'⟩, rfl, h1, ho, h2, h3⟩
theorem rr_num (w0 w : World) (g : Nat) (q : Rq) (s : Rd) (h : RR w0 w g q s) (k : Int) (hk : -1 ≤ k ∧ k ≤ 4294967296) :
    Calls Try.prog 51 #[.pointer (some ⟨g, 0, none⟩), .int .i64 k] w fun e w' => e = .returned (.int .u32 (s.num k).1) ∧ RR w0 w' g q (s.num k).2 ∧ Kept (fun i => i = g) w w' := by
  refine (rnum_any w g q.A q.n q.c s k h.rs h.oct (by omega) (by omega)).mono ?_
  rintro e w' ⟨rfl, h2, h3⟩
  exact ⟨rfl, ⟨h2, by rw [rnum_xs]; exact h.oct, h.g0, h.b.trans (h3.below (fun i e => e ▸ h.g0) h.b.size)⟩, h3⟩
theorem rr_err (w0 w : World) (g : Nat) (q : Rq) (s : Rd) (h : RR w0 w g q s) :
    Calls Try.prog 89 #[.pointer (some ⟨g, 0, none⟩)] w fun e w' => e = .returned (.int .i64 s.e) ∧ w = w' := err_any w g q.A q.n q.c s h.rs
theorem rr_left (w0 w : World) (g : Nat) (q : Rq) (s : Rd) (h : RR w0 w g q s) :
    Calls Try.prog 86 #[.pointer (some ⟨g, 0, none⟩)] w fun e w' => e = .returned (.int .i64 s.left) ∧ ∃ k, w' = w.drewN k := left_any w g q.A q.n q.c s h.rs
theorem RS.addr {w : World} {g n c : Nat} {A : Option Addr} {s : Rd} (h : RS w g A n c s) (h0 : 0 < n) : ∀ ad, A = some ad → ad.block < w.heap.size := by
  intro ad e
  obtain ⟨ad', e', hb, _⟩ := h.reads.2 h0
  rw [e] at e'
  injection e' with e'
  rw [e']; exact hb
theorem rs_kept {R : Nat → Prop} {w w' : World} {g n c : Nat} {A : Option Addr} {s : Rd} (h : RS w g A n c s) (k : Kept R w w') (hg : ¬ R g) (hA : 0 < n → ∀ ad, A = some ad → ¬ R ad.block) : RS w' g A n c s := h.kept k hg hA
end Go.Proofs.Ytbkejlalbjomkaa
