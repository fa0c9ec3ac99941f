/-
  octet's writer, walked: whole, fits, Put, Number, Write.
-/
import Derived.Test.YtbkejlalbjomkaaRefA
import Derived.Test.YtbkejlalbjomkaaKept
import Derived.Test.YtbkejlalbjomkaaRgn
import Derived.Test.YtbkejlalbjomkaaBits
namespace Go.Proofs.Ytbkejlalbjomkaa
set_option linter.unusedVariables false
open Go.RowKit

/-- A writer, as plain data: the limit, the error, the bytes. -/
structure Wr where
  most : Int
  e : Int
  xs : List Int
/-- Bytes laid behind. -/
def Wr.put (s : Wr) (ys : List Int) : Wr := if s.e = 0 then (if (ys.length : Int) > s.most - s.xs.length then { s with e := 11 } else { s with xs := s.xs ++ ys }) else s
/-- Has a number so many bytes? -/
def fitsB (v n : Int) : Bool := decide (1 ≤ n) && decide (n ≤ 4) && (n == 4 || v / 2 ^ (8 * n).toNat == 0)
/-- A number's four bytes. -/
def four (v : Int) : List Int := [v / 16777216, v / 65536 % 256, v / 256 % 256, v % 256]
def Wr.num (s : Wr) (v n : Int) : Wr := if s.e = 0 then (if fitsB v n then s.put ((four v).drop (4 - n).toNat) else { s with e := 1 }) else s

/-- A writer in memory. -/
def WS (base : Nat) (w : World) (g : Nat) (v : Value) (s : Wr) : Prop :=
  base ≤ g ∧ Blk w g 124 #[v, .int .i64 s.most, .int .i64 s.e, .bool true] ∧ w.ownsRow base 5 1 v s.xs.length (u8s s.xs)


set_option maxHeartbeats 400000 in
theorem wwhole_any (w : World) (base g : Nat) (v : Value) (s : Wr) (h : WS base w g v s) :
    Calls Try.prog 78 #[.pointer (some ⟨g, 0, none⟩)] w fun e w' => e = .returned (.bool (s.e == 0)) ∧ w = w' := by
  have c3 : w.cell? ⟨g, 3, none⟩ = some (.bool true) := by rw [h.2.1.cell]; rfl
  have c2 : w.cell? ⟨g, 2, none⟩ = some (.int .i64 s.e) := by rw [h.2.1.cell]; rfl
  generalize s.e = e at *
  clear h
  by_cases he : e = 0
  · have hb : (e == 0) = true := by simp [he]
    clear he
    go_enter Try.func78, Try.ntmps78
    go_wp2
    go_ret
    exact ⟨by rw [hb]; rfl, rfl⟩
  · have hb : (e == 0) = false := by simp [he]
    clear he
    go_enter Try.func78, Try.ntmps78
    go_wp2
    go_ret
    exact ⟨by rw [hb]; rfl, rfl⟩

set_option maxHeartbeats 400000 in
theorem fits_any (w : World) (v n : Int) (hv0 : 0 ≤ v) (hv1 : v ≤ 4294967295) (hn0 : -9223372036854775808 ≤ n) (hn1 : n ≤ 9223372036854775807) :
    Calls Try.prog 79 #[.int .u32 v, .int .i64 n] w fun e w' => e = .returned (.bool (fitsB v n)) ∧ w = w' := by
  by_cases h1 : n < 1
  · have hb : decide (1 ≤ n) = false := by simp; omega
    have hf : Hid (fitsB v n = false) := by show _ = _; simp [fitsB, hb]
    go_enter Try.func79, Try.ntmps79
    go_wp2
    go_ret
    exact ⟨by rw [hf.out]; rfl, rfl⟩
  by_cases h4 : 4 < n
  · have hb : decide (n ≤ 4) = false := by simp; omega
    have hf : Hid (fitsB v n = false) := by show _ = _; simp [fitsB, hb]
    go_enter Try.func79, Try.ntmps79
    go_wp2
    go_ret
    exact ⟨by rw [hf.out]; rfl, rfl⟩
  have hn : n = 1 ∨ n = 2 ∨ n = 3 ∨ n = 4 := by omega
  clear h1 h4 hn0 hn1
  have f1 : Hid (fitsB v 1 = (v / 256 == 0)) := by show _ = _; simp [fitsB]
  have f2 : Hid (fitsB v 2 = (v / 65536 == 0)) := by show _ = _; simp [fitsB]
  have f3 : Hid (fitsB v 3 = (v / 16777216 == 0)) := by show _ = _; simp [fitsB]
  have f4 : Hid (fitsB v 4 = true) := by show _ = _; simp [fitsB]
  rcases hn with rfl | rfl | rfl | rfl
  all_goals
    go_enter Try.func79, Try.ntmps79
    go_wp2
    go_ret
  · exact ⟨by rw [f1.out]; rfl, rfl⟩
  · exact ⟨by rw [f2.out]; rfl, rfl⟩
  · exact ⟨by rw [f3.out]; rfl, rfl⟩
  · exact ⟨by rw [f4.out]; rfl, rfl⟩

/-- What a writer's method leaves: the pointer is handed back, the writer is s', and nothing else has turned but its own row. -/
def WPost (base : Nat) (w w' : World) (g : Nat) (v : Value) (s' : Wr) : Prop :=
  ∃ v', WS base w' g v' s' ∧ Kept (fun i => i = g ∨ v.ownBlock = some i) w w' ∧ (v'.ownBlock = v.ownBlock ∨ ∃ i, w.heap.size ≤ i ∧ v'.ownBlock = some i)
theorem WPost.same {base g : Nat} {w : World} {v : Value} {s : Wr} (h : WS base w g v s) : WPost base w w g v s := ⟨v, h, Kept.refl _ _, .inl rfl⟩
theorem WPost.drewN {base g : Nat} {w : World} {v : Value} {s : Wr} (h : WS base w g v s) (n : Nat) : WPost base w (w.drewN n) g v s := ⟨v, h, (Kept.refl _ w).drewN n, .inl rfl⟩
theorem WPost.below {base g : Nat} {w w' : World} {v : Value} {s s' : Wr} (h : WS base w g v s) (p : WPost base w w' g v s') : Below base w w' := by
  obtain ⟨v', _, k, _⟩ := p
  refine k.below (fun i hi => ?_) (by have := h.2.1.lt; have := h.1; omega)
  rcases hi with rfl | hi
  · exact h.1
  · exact (own_ge h.2.2 hi).1
/-- The error is set. -/
theorem WPost.err {base g : Nat} {w : World} {v : Value} {s : Wr} (h : WS base w g v s) (e : Int) (n : Nat) : WPost base w ((w.drewN n).setCell ⟨g, 2, none⟩ (.int .i64 e)) g v { s with e := e } :=
  ⟨v, ⟨h.1, Blk.set_ (w := w.drewN n) h.2.1 2 _, own_setCell (w := w.drewN n) h.2.2 h.2.1 (by decide) _⟩, ((Kept.refl _ w).drewN n).setCell (p := ⟨g, 2, none⟩) (fun _ => .inl rfl) _, .inl rfl⟩

set_option maxRecDepth 100000 in
set_option maxHeartbeats 1000000 in
theorem put_any (base g : Nat) (v : Value) (s : Wr) (A : Option Addr) (n c : Nat) (ys : List Int) (w : World) (h : WS base w g v s) (hy : Reads w w.heap.size 1 A n (u8s ys)) (hn : s.xs.length + n ≤ 140737488355328) (hm0 : 0 ≤ s.most) (hm1 : s.most ≤ 9223372036854775807) :
    Calls Try.prog 32 #[.pointer (some ⟨g, 0, none⟩), .slice A n c] w fun e w' => e = .returned (.pointer (some ⟨g, 0, none⟩)) ∧ WPost base w w' g v (s.put ys) := by
  have hl := hy.u8len
  by_cases he : s.e = 0
  · have hee := wwhole_any w base g v s h
    rw [show (s.e == 0) = true by simp [he]] at hee
    have HE := Lib.hid hee
    clear hee
    obtain ⟨A0, c0, hv, hc0, hm, hr0⟩ := own_shape h.2.2
    have c1 : w.cell? ⟨g, 1, none⟩ = some (.int .i64 s.most) := by rw [h.2.1.cell]; rfl
    have c0' : w.cell? ⟨g, 0, none⟩ = some (.slice A0 s.xs.length c0) := by rw [h.2.1.cell, hv]; rfl
    by_cases hlong : (n : Int) > s.most - s.xs.length
    · have hp : Hid (s.put ys = { s with e := 11 }) := by show _ = _; rw [Wr.put, if_pos he, hl, if_pos hlong]
      have f2 := h.2.1.frozen 2
      have c2 : w.cell? ⟨g, 2, none⟩ = some (.int .i64 s.e) := by rw [h.2.1.cell]; rfl
      have H := Lib.hid h
      clear h hv he hy hr0 hl
      go_enter Try.func32, Try.ntmps32
      go_wp2_with (go_at_call 78; refine HE.out.mono ?_; rintro e w' ⟨rfl, rfl⟩)
      go_quiet (fail)
      go_wp2
      go_ret
      exact ⟨rfl, by rw [hp.out]; exact WPost.err H.out 11 nq⟩
    · have hp : Hid (s.put ys = { s with xs := s.xs ++ ys }) := by show _ = _; rw [Wr.put, if_pos he, hl, if_neg hlong]
      have hyo := hy.u8len
      have H := Lib.hid h
      have HY := Lib.hid hy
      have HL := Lib.hid hl
      have HV := Lib.hid hv
      clear h hv he hy hr0 hl hyo
      go_enter Try.func32, Try.ntmps32
      go_wp2_with (go_at_call 78; refine HE.out.mono ?_; rintro e w' ⟨rfl, rfl⟩)
      go_quiet (fail)
      have HNE : Hid (some g ≠ (Value.slice A0 s.xs.length c0).ownBlock) := by
        have := own_blk_ne H.out.2.2 H.out.2.1 (by decide)
        rw [HV.out] at this
        exact fun e => this e.symm
      have HO : Hid ((w.drewN nq).ownsRow base 5 1 (.slice A0 s.xs.length c0) s.xs.length (u8s s.xs)) := by have := H.out.2.2; rw [HV.out] at this; exact this
      go_wp2_with (at_builtin; refine wpList_app el_u8 rfl (.tmp 30) (.tmp 31) rfl HO.out rfl (HY.out.drewN nq) rfl u8s_one (by simp only [maxLen]; omega) (by omega) (by show base ≤ w.heap.size; have := H.out.2.1.lt; have := H.out.1; omega) ?_; intro v1 w1 ho1 hb1 hg1 hat1; have hsh := own_shape ho1; obtain ⟨A1, k1, hv1, _, _, _⟩ := hsh; subst hv1; have HB1 := Lib.hid ((H.out.2.1.drewN nq).grown hg1 HNE.out); have HO1 := Lib.hid ho1; have HG1 := Lib.hid hg1; have HA1 := Lib.hid hat1; have cc0 : w1.cell? ⟨g, 0, none⟩ = some v := (by rw [HB1.out.cell]; rfl); have ff0 := HB1.out.frozen 0; clear ho1 hb1 hg1 hat1)
      go_ret
      refine ⟨rfl, ?_⟩
      rw [hp.out]
      refine ⟨_, ⟨H.out.1, HB1.out.set_ 0 _, ?_⟩, ?_, ?_⟩
      · have := own_setCell (i := 0) HO1.out HB1.out (by decide) (.slice A1 (s.xs.length + n) k1)
        show World.ownsRow _ _ _ _ _ (s.xs ++ ys).length (u8s (s.xs ++ ys))
        rw [List.length_append, HL.out, u8s_append]
        exact this
      · have h1 : Kept (fun i => i = g ∨ v.ownBlock = some i) w w1 := ((Kept.refl _ w).drewN nq).trans (Kept.of_grown HG1.out) (fun i _ hi => .inr (by rw [HV.out]; exact hi))
        exact h1.setCell (p := ⟨g, 0, none⟩) (fun _ => .inl rfl) _
      · rcases HA1.out with h1 | h1
        · exact .inl (by rw [h1, HV.out])
        · exact .inr ⟨_, Nat.le_refl _, h1⟩
  · have hee := wwhole_any w base g v s h
    rw [show (s.e == 0) = false by simp [he]] at hee
    have HE := Lib.hid hee
    have hp : Hid (s.put ys = s) := by show _ = _; rw [Wr.put, if_neg he]
    have H := Lib.hid h
    clear hee he h hy
    go_enter Try.func32, Try.ntmps32
    go_wp2_with (go_at_call 78; refine HE.out.mono ?_; rintro e w' ⟨rfl, rfl⟩)
    go_ret
    exact ⟨rfl, by rw [hp.out]; exact WPost.same H.out⟩

theorem Blk.readsFrom {w : World} {g : Nat} {t : TypeId} {xs : List Value} (h : Blk w g t xs.toArray) (k n : Nat) (hn : xs.length = n + k) : Reads w w.heap.size 1 (some ⟨g, k, none⟩) n (xs.drop k) :=
  ⟨by rw [List.length_drop]; omega, fun _ => ⟨_, rfl, h.lt, fun j u hu => by
    rw [add_none, h.cell, ← hu, List.getElem?_drop]
    simp⟩⟩
theorem WS.alloc {base g : Nat} {w : World} {v : Value} {s : Wr} (h : WS base w g v s) (o : Obj) : WS base (w.alloc o) g v s := ⟨h.1, h.2.1.alloc o, h.2.2.alloc o⟩
theorem WS.drewN {base g : Nat} {w : World} {v : Value} {s : Wr} (h : WS base w g v s) (n : Nat) : WS base (w.drewN n) g v s := h
theorem WPost.from {base g : Nat} {w w1 w' : World} {v : Value} {s' : Wr} (p : WPost base w1 w' g v s') (k : Below w.heap.size w w1) : WPost base w w' g v s' := by
  obtain ⟨v', h1, h2, h3⟩ := p
  refine ⟨v', h1, (Kept.of_new k _).trans h2 (fun i _ hi => hi), ?_⟩
  rcases h3 with h3 | ⟨i, hi, h3⟩
  · exact .inl h3
  · exact .inr ⟨i, Nat.le_trans k.size hi, h3⟩
theorem four_oct (v : Int) (h0 : 0 ≤ v) (h1 : v ≤ 4294967295) : Oct (four v) := Oct.of_mem fun x hx => by
  simp only [four, List.mem_cons, List.not_mem_nil, or_false] at hx
  omega

set_option maxRecDepth 100000 in
set_option maxHeartbeats 1000000 in
theorem num_any (base g : Nat) (v : Value) (s : Wr) (x n : Int) (w : World) (h : WS base w g v s) (hx0 : 0 ≤ x) (hx1 : x ≤ 4294967295) (hn0 : -9223372036854775808 ≤ n) (hn1 : n ≤ 9223372036854775807) (hl : s.xs.length + 4 ≤ 140737488355328) (hm0 : 0 ≤ s.most) (hm1 : s.most ≤ 9223372036854775807) :
    Calls Try.prog 33 #[.pointer (some ⟨g, 0, none⟩), .int .u32 x, .int .i64 n] w fun e w' => e = .returned (.pointer (some ⟨g, 0, none⟩)) ∧ WPost base w w' g v (s.num x n) := by
  by_cases he : s.e = 0
  · have hee := wwhole_any w base g v s h
    rw [show (s.e == 0) = true by simp [he]] at hee
    have HE := Lib.hid hee
    clear hee
    have hff := fits_any w x n hx0 hx1 hn0 hn1
    by_cases hf : fitsB x n = true
    · rw [hf] at hff
      have HF := Lib.hid hff
      have hn : n = 1 ∨ n = 2 ∨ n = 3 ∨ n = 4 := by simp [fitsB] at hf; omega
      have hp : Hid (s.num x n = s.put ((four x).drop (4 - n).toNat)) := by show _ = _; rw [Wr.num, if_pos he, if_pos hf]
      have H := Lib.hid h
      clear h hff hf he
      have HA := H.out.alloc (.cells (u8s (four x)).toArray 126)
      have HB := Blk.new w 126 (u8s (four x)).toArray
      have P := fun (k m : Nat) (hk : (u8s (four x)).length = m + k) (hm : m ≤ 4) => put_any base g v s (some ⟨w.heap.size, k, none⟩) m m ((four x).drop k) _ HA (by have := Blk.readsFrom HB k m hk; rw [u8s_drop] at this; exact this) (by omega) hm0 hm1
      have HP := Lib.hid P
      have HNew : Hid (Below w.heap.size w (w.alloc (.cells (u8s (four x)).toArray 126))) := (Below.refl _ _).alloc (Nat.le_refl _) _
      clear P HA HB
      rcases hn with rfl | rfl | rfl | rfl
      · go_enter Try.func33, Try.ntmps33
        go_wp2_with (first
          | (go_at_call 78; refine HE.out.mono ?_; rintro e w' ⟨rfl, rfl⟩)
          | (go_at_call 79; refine HF.out.mono ?_; rintro e w' ⟨rfl, rfl⟩))
        refine (HP.out 3 1 rfl (by omega)).mono ?_
        rintro e w' ⟨rfl, hq⟩
        have HQ := Lib.hid (hq.from HNew.out)
        clear hq
        go_wp2
        go_ret
        exact ⟨rfl, by rw [hp.out]; exact HQ.out⟩
      · go_enter Try.func33, Try.ntmps33
        go_wp2_with (first
          | (go_at_call 78; refine HE.out.mono ?_; rintro e w' ⟨rfl, rfl⟩)
          | (go_at_call 79; refine HF.out.mono ?_; rintro e w' ⟨rfl, rfl⟩))
        refine (HP.out 2 2 rfl (by omega)).mono ?_
        rintro e w' ⟨rfl, hq⟩
        have HQ := Lib.hid (hq.from HNew.out)
        clear hq
        go_wp2
        go_ret
        exact ⟨rfl, by rw [hp.out]; exact HQ.out⟩
      · go_enter Try.func33, Try.ntmps33
        go_wp2_with (first
          | (go_at_call 78; refine HE.out.mono ?_; rintro e w' ⟨rfl, rfl⟩)
          | (go_at_call 79; refine HF.out.mono ?_; rintro e w' ⟨rfl, rfl⟩))
        refine (HP.out 1 3 rfl (by omega)).mono ?_
        rintro e w' ⟨rfl, hq⟩
        have HQ := Lib.hid (hq.from HNew.out)
        clear hq
        go_wp2
        go_ret
        exact ⟨rfl, by rw [hp.out]; exact HQ.out⟩
      · go_enter Try.func33, Try.ntmps33
        go_wp2_with (first
          | (go_at_call 78; refine HE.out.mono ?_; rintro e w' ⟨rfl, rfl⟩)
          | (go_at_call 79; refine HF.out.mono ?_; rintro e w' ⟨rfl, rfl⟩))
        refine (HP.out 0 4 rfl (by omega)).mono ?_
        rintro e w' ⟨rfl, hq⟩
        have HQ := Lib.hid (hq.from HNew.out)
        clear hq
        go_wp2
        go_ret
        exact ⟨rfl, by rw [hp.out]; exact HQ.out⟩
    · rw [Bool.not_eq_true] at hf
      rw [hf] at hff
      have HF := Lib.hid hff
      have hp : Hid (s.num x n = { s with e := 1 }) := by show _ = _; rw [Wr.num, if_pos he, hf]; rfl
      have f2 := h.2.1.frozen 2
      have c2 : w.cell? ⟨g, 2, none⟩ = some (.int .i64 s.e) := by rw [h.2.1.cell]; rfl
      have H := Lib.hid h
      clear h hff hf he
      go_enter Try.func33, Try.ntmps33
      go_wp2_with (first
        | (go_at_call 78; refine HE.out.mono ?_; rintro e w' ⟨rfl, rfl⟩)
        | (go_at_call 79; refine HF.out.mono ?_; rintro e w' ⟨rfl, rfl⟩))
      go_ret
      exact ⟨rfl, by rw [hp.out]; exact WPost.err H.out 1 0⟩
  · have hee := wwhole_any w base g v s h
    rw [show (s.e == 0) = false by simp [he]] at hee
    have HE := Lib.hid hee
    have hp : Hid (s.num x n = s) := by show _ = _; rw [Wr.num, if_neg he]
    have H := Lib.hid h
    clear hee he h
    go_enter Try.func33, Try.ntmps33
    go_wp2_with (go_at_call 78; refine HE.out.mono ?_; rintro e w' ⟨rfl, rfl⟩)
    go_ret
    exact ⟨rfl, by rw [hp.out]; exact WPost.same H.out⟩
end Go.Proofs.Ytbkejlalbjomkaa
