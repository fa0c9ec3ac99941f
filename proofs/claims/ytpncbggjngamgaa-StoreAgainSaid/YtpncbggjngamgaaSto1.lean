/-
  States in memory, their keys and ages. Printed by gen_sto1.py.
-/
import Derived.Test.YtpncbggjngamgaaSkA
import Derived.Test.YtpncbggjngamgaaOwnW
import Derived.Test.YtpncbggjngamgaaRgn4
import Derived.Test.YtpncbggjngamgaaFlat
import Derived.Test.YtpncbggjngamgaaBits
import Derived.Test.YtpncbggjngamgaaRefA
import Derived.Lib.SliceRun
namespace Go.Proofs.Ytpncbggjngamgaa
set_option linter.unusedVariables false
open Go.RowKit

/-- Clone of bytes: a row of the call's own. -/
theorem clone_any (A : Option Addr) (n c : Nat) (xs : List Int) (w : World) (hx : Reads w w.heap.size 1 A n (u8s xs)) (hn : n ≤ 140737488355328) :
    Calls Try.prog 41 #[.slice A n c] w fun e w' => ∃ v, e = .returned v ∧ w'.ownsRow w.heap.size 5 1 v xs.length (u8s xs) ∧ Below w.heap.size w w' := by
  have hl := Lib.hid hx.u8len
  have hE := fun W : World => Lib.run_eql_slice_nil (P := Try.prog) W 29 5 A n c 0 0 Try.underlying29
  rcases A with _ | ad
  · have h0 : n = 0 := by
      rcases Nat.eq_zero_or_pos n with h | h
      · exact h
      · obtain ⟨ad, h, _⟩ := hx.2 h
        cases h
    subst h0
    clear hx
    simp only [Option.isNone_none] at hE
    go_enter Try.func41, Try.ntmps41
    go_wp2
    go_ret
    refine ⟨_, rfl, ?_, Below.refl _ _⟩
    rw [hl.out, List.eq_nil_of_length_eq_zero hl.out]
    exact World.ownsRow_nil _ _ _ _
  · simp only [Option.isNone_some] at hE
    have HO : Hid ((w.alloc (.cells #[] 5)).ownsRow w.heap.size 5 1 (.slice (some ⟨w.heap.size, 0, none⟩) 0 0) 0 (u8s [])) := by
      refine ⟨rfl, .inr ⟨w.heap.size, 0, #[], rfl, Nat.le_refl _, heap_alloc_new w _, Nat.le_refl _, by simp [maxLen], rfl, rfl⟩⟩
    have HX := Lib.hid ((hx.alloc (Nat.le_refl _) (.cells #[] 5)))
    clear hx
    go_enter Try.func41, Try.ntmps41
    go_wp2_with (at_builtin; refine wpList_app el_u8 rfl (.tmp 5) (.tmp 6) rfl HO.out rfl HX.out rfl u8s_one (by simp only [maxLen]; omega) (by omega) (by rw [World.size_alloc]; omega) ?_; intro v1 w1 ho1 hb1 hg1 hat1)
    go_ret
    refine ⟨_, rfl, ?_, ((Below.refl _ _).alloc (Nat.le_refl _) _).trans hb1⟩
    rw [hl.out]
    have := ho1
    rw [Nat.zero_add] at this
    exact this
/-- A head, as plain data. -/
structure Hd where
  age : Int
  opts : Int
  typ : Int
  id : Int
  adv : Int
  seq : Int
  sum : Int
  len : Int
structure Hd.ok (h : Hd) : Prop where
  age : 0 ≤ h.age ∧ h.age ≤ 65535
  opts : 0 ≤ h.opts ∧ h.opts ≤ 255
  typ : 0 ≤ h.typ ∧ h.typ ≤ 255
  id : 0 ≤ h.id ∧ h.id ≤ 4294967295
  adv : 0 ≤ h.adv ∧ h.adv ≤ 4294967295
  seq : -2147483648 ≤ h.seq ∧ h.seq ≤ 2147483647
  sum : 0 ≤ h.sum ∧ h.sum ≤ 65535
  len : 0 ≤ h.len ∧ h.len ≤ 65535
def Hd.cells (h : Hd) : List Value := [.int .u16 h.age, .int .u8 h.opts, .int .u8 h.typ, .int .u32 h.id, .int .u32 h.adv, .int .i32 h.seq, .int .u16 h.sum, .int .u16 h.len]
@[reducible] def Hd.v (h : Hd) : Value := .agg #[.int .u16 h.age, .int .u8 h.opts, .int .u8 h.typ, .int .u32 h.id, .int .u32 h.adv, .int .i32 h.seq, .int .u16 h.sum, .int .u16 h.len]
@[reducible] def stV (h : Hd) (A : Option Addr) (n c : Nat) : Value := .agg #[.int .u16 h.age, .int .u8 h.opts, .int .u8 h.typ, .int .u32 h.id, .int .u32 h.adv, .int .i32 h.seq, .int .u16 h.sum, .int .u16 h.len, .slice A n c]
@[reducible] def stC (h : Hd) (A : Option Addr) (n c : Nat) : Array Value := #[.int .u16 h.age, .int .u8 h.opts, .int .u8 h.typ, .int .u32 h.id, .int .u32 h.adv, .int .i32 h.seq, .int .u16 h.sum, .int .u16 h.len, .slice A n c]
@[reducible] def zC : Array Value := #[.int .u16 0, .int .u8 0, .int .u8 0, .int .u32 0, .int .u32 0, .int .i32 0, .int .u16 0, .int .u16 0, .slice none 0 0]
@[reducible] def zeroSt : Value := .agg #[.int .u16 0, .int .u8 0, .int .u8 0, .int .u32 0, .int .u32 0, .int .i32 0, .int .u16 0, .int .u16 0, .slice none 0 0]
theorem stC_facts {W : World} {g : Nat} {h : Hd} {A : Option Addr} {n c : Nat} (b : Blk W g 31 (stC h A n c)) :
    W.cell? ⟨g, 0, none⟩ = some (.int .u16 h.age) ∧ W.cell? ⟨g, 1, none⟩ = some (.int .u8 h.opts) ∧ W.cell? ⟨g, 2, none⟩ = some (.int .u8 h.typ) ∧ W.cell? ⟨g, 3, none⟩ = some (.int .u32 h.id) ∧ W.cell? ⟨g, 4, none⟩ = some (.int .u32 h.adv) ∧
    W.cell? ⟨g, 5, none⟩ = some (.int .i32 h.seq) ∧ W.cell? ⟨g, 6, none⟩ = some (.int .u16 h.sum) ∧ W.cell? ⟨g, 7, none⟩ = some (.int .u16 h.len) ∧ W.cell? ⟨g, 8, none⟩ = some (.slice A n c) :=
  ⟨b.cell 0, b.cell 1, b.cell 2, b.cell 3, b.cell 4, b.cell 5, b.cell 6, b.cell 7, b.cell 8⟩
theorem info_state : (Try.prog.info? 31).map (·.size) = some 9 := by kernel_rfl
theorem info_head : (Try.prog.info? 28).map (·.size) = some 8 := by kernel_rfl
/-- One state: its head, where its body stands, and the body's bytes. -/
structure SE where
  h : Hd
  A : Option Addr
  n : Nat
  c : Nat
  B : List Int
@[reducible] def SE.v (s : SE) : Value := stV s.h s.A s.n s.c
/-- A state that can be read. -/
structure SE.rd (w : World) (s : SE) : Prop where
  head : s.h.ok
  body : Reads w w.heap.size 1 s.A s.n (u8s s.B)
  oct : Oct s.B
  cap : s.n ≤ s.c ∧ s.c ≤ 9223372036854775807
  len : s.n ≤ 1099511627776
theorem SE.rd.bl {w : World} {s : SE} (h : s.rd w) : s.B.length = s.n := h.body.u8len
theorem SE.rd.kept {R : Nat → Prop} {w w' : World} {s : SE} (h : s.rd w) (k : Kept R w w') (hn : ∀ ad, s.A = some ad → ¬ R ad.block) : s.rd w' := ⟨h.head, h.body.keptUp k (fun _ ad e => hn ad e), h.oct, h.cap, h.len⟩
theorem SE.rd.later {w w' : World} {s : SE} (h : s.rd w) (hb : Below w.heap.size w w') : s.rd w' := h.kept (Kept.of_new hb (fun _ => False)) (fun _ _ h => h)
@[reducible] def SE.b (s : SE) : Value := .slice s.A s.n s.c
/-- A state whose body is a row of its own, new since base. -/
structure SE.ok (base : Nat) (w : World) (s : SE) : Prop where
  head : s.h.ok
  body : w.ownsRow base 5 1 s.b s.n (u8s s.B)
  oct : Oct s.B
  len : s.n ≤ 1099511627776
theorem SE.ok.later {base : Nat} {w w' : World} {s : SE} (h : s.ok base w) (hb : Below w.heap.size w w') : s.ok base w' := ⟨h.head, own_kept h.body (Kept.of_new hb (fun _ => False)) (fun _ _ h => h), h.oct, h.len⟩
theorem SE.ok.rd {base : Nat} {w : World} {s : SE} (h : s.ok base w) : s.rd w := by
  obtain ⟨A, c, e, h1, h2, h3⟩ := own_shape h.body
  injection e with e1 _ e3
  exact ⟨h.head, by rw [e1]; exact h3, h.oct, by rw [e3]; exact ⟨h1, h2⟩, h.len⟩
theorem SE.ok.mono {base b' : Nat} {w : World} {s : SE} (h : s.ok base w) (hb : b' ≤ base) : s.ok b' w := ⟨h.head, own_mono h.body hb, h.oct, h.len⟩
/-- What counts of a state. -/
structure CopyOf (w w' : World) (s s' : SE) : Prop where
  h : s'.h = s.h
  B : s'.B = s.B
  n : s'.n = s.n
  ok : s'.ok w.heap.size w'
set_option maxRecDepth 100000 in
set_option maxHeartbeats 2000000 in
theorem copyState_any (s : SE) (w : World) (hs : s.rd w) : Calls Try.prog 30 #[s.v] w fun e w' => ∃ s', e = .returned s'.v ∧ CopyOf w w' s s' ∧ Below w.heap.size w w' := by
  obtain ⟨h, A, n, c, B⟩ := s
  have Hok := Lib.hid hs
  have hz : Hid (Blk ((w.alloc (.cells (stC h A n c) 31)).alloc (.cells zC 31)) (w.heap.size + 1) 31 zC) := new_at _ _ _
  have hx : Hid (Blk ((w.alloc (.cells (stC h A n c) 31)).alloc (.cells zC 31)) w.heap.size 31 (stC h A n c)) := Lib.hid ((Blk.new _ _ _).alloc _)
  have hb : Hid (Below w.heap.size w ((w.alloc (.cells (stC h A n c) 31)).alloc (.cells zC 31))) := below_two _ _ _
  have hR := Lib.hid (Hok.out.body.later hb.out)
  have hn : n ≤ 1099511627776 := Hok.out.len
  have hl : Hid (B.length = n) := Lib.hid Hok.out.body.u8len
  clear hs
  show Calls Try.prog 30 #[stV h A n c] w fun e w' => ∃ s', e = .returned s'.v ∧ CopyOf w w' ⟨h, A, n, c, B⟩ s' ∧ Below w.heap.size w w'
  go_enter Try.func30, Try.ntmps30
  go_wp2_with fail
  unfold stC zC at *
  generalize (w.alloc (.cells #[.int .u16 h.age, .int .u8 h.opts, .int .u8 h.typ, .int .u32 h.id, .int .u32 h.adv, .int .i32 h.seq, .int .u16 h.sum, .int .u16 h.len, .slice A n c] 31)).alloc (.cells #[.int .u16 0, .int .u8 0, .int .u8 0, .int .u32 0, .int .u32 0, .int .i32 0, .int .u16 0, .int .u16 0, .slice none 0 0] 31) = w1 at *
  refine (copyBytes_any A n c B w1 hR.out hn).mono ?_
  rintro e w2 ⟨v, rfl, hown, hb2⟩
  have H2 := Lib.hid (And.intro hown hb2)
  obtain ⟨A7, c7, hv, -⟩ := own_shape hown
  subst hv
  have x2 := hx.out.later hb2
  have z2 := hz.out.later hb2
  have HX := Lib.hid (And.intro x2 z2)
  obtain ⟨y0, y1, y2, y3, y4, y5, y6, y7, y8⟩ := stC_facts x2
  have f8 := x2.frozen 8
  have hne : w.heap.size ≠ w.heap.size + 1 := by omega
  clear hown hb2 x2 z2
  go_wp2_with (refine wpList_store_row rfl 31 _ _ rfl (w.heap.size + 1) #[.int .u16 h.age, .int .u8 h.opts, .int .u8 h.typ, .int .u32 h.id, .int .u32 h.adv, .int .i32 h.seq, .int .u16 h.sum, .int .u16 h.len, .slice A7 B.length c7] rfl rfl 31 _ (HX.out.2.far (by simp) _) info_state rfl (by simp [Value.oneCell']) ?_)
  refine bodyPost_ret (results_cell_row rfl _ _ (w.heap.size + 1) 31 #[.int .u16 h.age, .int .u8 h.opts, .int .u8 h.typ, .int .u32 h.id, .int .u32 h.adv, .int .i32 h.seq, .int .u16 h.sum, .int .u16 h.len, .slice A7 B.length c7] (0, 0) _ rfl ((HX.out.2.far (by simp) _).setRow _) Try.underlying31 rfl info_state) rfl ?_
  have hb3 : Below w.heap.size w w2 := below_then hb.out H2.out.2
  have h1s := hz.out.lt
  refine ⟨⟨h, A7, B.length, c7, B⟩, rfl, ⟨rfl, rfl, hl.out, ⟨Hok.out.head, ?_, Hok.out.oct, by rw [hl.out]; exact hn⟩⟩, ?_⟩
  · have k1 := (kept_setC w2 w.heap.size 8 (.slice A7 B.length c7)).mono (T := fun j => j = w.heap.size ∨ j = w.heap.size + 1) fun i _ e => .inl e
    refine own_mono (own_kept H2.out.1 (k1.trans (Kept.of_grown (only_setRow _ (w.heap.size + 1) _)) (fun i _ e => .inr (by simpa using e.symm))) ?_) hb.out.size
    intro i hi e
    have := (own_ge H2.out.1 hi).1
    omega
  · exact below_setRow (hb3.setCell (by simp) _) (Nat.le_succ _) _
def yearsOf (age : Int) : Int := min (age % 32768) 3600
theorem years_bound (age : Int) (h0 : 0 ≤ age) : 0 ≤ yearsOf age ∧ yearsOf age ≤ 3600 := by unfold yearsOf; omega
theorem u16_andNot15 (x : Int) (h0 : 0 ≤ x) (h1 : x ≤ 65535) : bits .andNot .u16 x 32768 = x % 32768 := by
  rw [u16_andNot _ _ (by omega) (by omega) (by omega) (by omega)]
  obtain ⟨a, rfl⟩ := Int.eq_ofNat_of_zero_le h0
  have e : 65535 - ((32768 : Int)).toNat = 2 ^ 15 - 1 := by omega
  rw [e, Int.toNat_natCast, Nat.and_two_pow_sub_one_eq_mod]
  omega

theorem years_any (age : Int) (w : World) (h0 : 0 ≤ age) (h1 : age ≤ 65535) :
    Calls Try.prog 66 #[.int .u16 age] w fun e w' => e = .returned (.int .i64 (yearsOf age)) ∧ w = w' := by
  have hb := u16_andNot15 age h0 h1
  have hy : Hid (yearsOf age = min (age % 32768) 3600) := rfl
  have hr0 : 0 ≤ age % 32768 := by omega
  have hr1 : age % 32768 ≤ 32767 := by omega
  generalize age % 32768 = r at *
  by_cases hle : r ≤ 3600
  · have hm : Hid (min r 3600 = r) := by show _ = _; omega
    go_enter Try.func66, Try.ntmps66
    go_wp2
    go_ret
    exact ⟨by rw [hy.out, hm.out]; rfl, rfl⟩
  · have hm : Hid (min r 3600 = 3600) := by show _ = _; omega
    go_enter Try.func66, Try.ntmps66
    go_wp2
    go_ret
    exact ⟨by rw [hy.out, hm.out]; rfl, rfl⟩
theorem old_any (age : Int) (w : World) (h0 : 0 ≤ age) (h1 : age ≤ 65535) :
    Calls Try.prog 32 #[.int .u16 age] w fun e w' => e = .returned (.bool (yearsOf age == 3600)) ∧ w = w' := by
  go_enter Try.func32, Try.ntmps32
  go_wp2_with (go_at_call 66; refine (years_any _ _ h0 h1).mono ?_; rintro e w' ⟨rfl, rfl⟩)
  go_ret
  exact ⟨rfl, rfl⟩
theorem info_key3 : (Try.prog.info? 45).map (·.size) = some 3 := by kernel_rfl
def SE.key (s : SE) : Ky3 := (s.h.typ, s.h.id, s.h.adv)
theorem skey_any (h : Hd) (w : World) : Calls Try.prog 40 #[h.v] w fun e w' => e = .returned (keyV (h.typ, h.id, h.adv)) ∧ Below w.heap.size w w' := by
  go_enter Try.func40, Try.ntmps40
  go_wp2
  exact bodyPost_ret (results_cell_row rfl _ _ (w.heap.size + 1) 45 #[.int .u8 h.typ, .int .u32 h.id, .int .u32 h.adv] (0, 0) _ rfl (new_at _ _ _) Try.underlying45 rfl info_key3) rfl ⟨rfl, below_two _ _ _⟩
theorem rkey_any (h : Hd) (w : World) : Calls Try.prog 16 #[h.v] w fun e w' => e = .returned (keyV (h.typ, h.id, h.adv)) ∧ Below w.heap.size w w' := by
  go_enter Try.func16, Try.ntmps16
  go_wp2
  exact bodyPost_ret (results_cell_row rfl _ _ (w.heap.size + 1) 45 #[.int .u8 h.typ, .int .u32 h.id, .int .u32 h.adv] (0, 0) _ rfl (new_at _ _ _) Try.underlying45 rfl info_key3) rfl ⟨rfl, below_two _ _ _⟩
/-- An age, so much later. -/
def laterA (a p : Int) : Int := if 32768 ≤ a ∨ p < 1 then a else min (yearsOf a + min p 3600) 3600
theorem u16_andNo (x : Int) (h0 : 0 ≤ x) (h1 : x ≤ 65535) : bits .and .u16 x 32768 = if 32768 ≤ x then 32768 else 0 := by
  rw [u16_and _ _ (by omega) (by omega) (by omega) (by omega)]
  obtain ⟨a, rfl⟩ := Int.eq_ofNat_of_zero_le h0
  have e : ((32768 : Int)).toNat = 2 ^ 15 := by omega
  rw [e, Int.toNat_natCast]
  have ht : a.testBit 15 = decide (32768 ≤ a) := by
    rw [Nat.testBit_eq_decide_div_mod_eq]
    congr 1
    apply propext
    omega
  have hv : a &&& 2 ^ 15 = if 32768 ≤ a then 2 ^ 15 else 0 := by
    apply Nat.eq_of_testBit_eq
    intro i
    rw [Nat.testBit_and, Nat.testBit_two_pow]
    by_cases hi : 15 = i
    · subst hi
      rw [ht]
      by_cases h : 32768 ≤ a
      · rw [decide_eq_true h, if_pos h, Nat.testBit_two_pow]; rfl
      · rw [decide_eq_false h, if_neg h]; rfl
    · rw [decide_eq_false hi, Bool.and_false]
      split
      · rw [Nat.testBit_two_pow, decide_eq_false hi]
      · simp
  rw [hv]
  by_cases h : 32768 ≤ a
  · rw [if_pos h, if_pos (by omega)]; rfl
  · rw [if_neg h, if_neg (by omega)]; rfl
theorem laterA_same {a p : Int} (h : 32768 ≤ a ∨ p < 1) : laterA a p = a := by unfold laterA; rw [if_pos h]
theorem laterA_more {a p : Int} (h : ¬ 32768 ≤ a) (h1 : ¬ p < 1) : laterA a p = min (yearsOf a + min p 3600) 3600 := by unfold laterA; rw [if_neg (by omega)]
theorem laterA_rng {a p : Int} (h0 : 0 ≤ a) (h1 : a ≤ 65535) : 0 ≤ laterA a p ∧ laterA a p ≤ 65535 := by
  have := years_bound a h0
  unfold laterA
  split <;> omega
set_option maxHeartbeats 2000000 in
theorem age_any (a p : Int) (w : World) (h0 : 0 ≤ a) (h1 : a ≤ 65535) :
    Calls Try.prog 79 #[.int .u16 a, .int .i64 p] w fun e w' => e = .returned (.int .u16 (laterA a p)) ∧ w = w' := by
  have hb := u16_andNo a h0 h1
  by_cases ha : 32768 ≤ a
  · rw [if_pos ha] at hb
    have hl : Hid (laterA a p = a) := laterA_same (.inl ha)
    go_enter Try.func79, Try.ntmps79
    go_wp2
    go_ret
    exact ⟨by rw [hl.out]; rfl, rfl⟩
  · rw [if_neg ha] at hb
    by_cases hp : p < 1
    · have hl : Hid (laterA a p = a) := laterA_same (.inr hp)
      have d1 : decide (p < 1) = true := decide_eq_true hp
      go_enter Try.func79, Try.ntmps79
      go_wp2
      go_ret
      exact ⟨by rw [hl.out]; rfl, rfl⟩
    · have hl : Hid (laterA a p = min (yearsOf a + min p 3600) 3600) := laterA_more ha hp
      have d1 : decide (p < 1) = false := decide_eq_false hp
      have HY : Hid (∀ W : World, Calls Try.prog 66 #[.int .u16 a] W fun e w' => e = .returned (.int .i64 (yearsOf a)) ∧ W = w') := fun W => years_any _ _ h0 h1
      have yb := years_bound a h0
      obtain ⟨y, hy⟩ : ∃ y, yearsOf a = y := ⟨_, rfl⟩
      rw [hy] at HY hl yb
      clear hy
      by_cases h2 : p ≤ 3600
      · have hm : Hid (min p 3600 = p) := by show _ = _; omega
        by_cases h3 : y + p ≤ 3600
        · have hn : Hid (min (y + p) 3600 = y + p) := by show _ = _; omega
          go_enter Try.func79, Try.ntmps79
          go_wp2_with (go_at_call 66; refine (HY.out _).mono ?_; rintro e w' ⟨rfl, rfl⟩)
          go_ret
          exact ⟨by rw [hl.out, hm.out, hn.out]; rfl, rfl⟩
        · have hn : Hid (min (y + p) 3600 = 3600) := by show _ = _; omega
          go_enter Try.func79, Try.ntmps79
          go_wp2_with (go_at_call 66; refine (HY.out _).mono ?_; rintro e w' ⟨rfl, rfl⟩)
          go_ret
          exact ⟨by rw [hl.out, hm.out, hn.out]; rfl, rfl⟩
      · have hm : Hid (min p 3600 = 3600) := by show _ = _; omega
        have hn : Hid (min (y + 3600) 3600 = 3600) := by show _ = _; omega
        by_cases h3 : y + 3600 ≤ 3600
        · obtain rfl : y = 0 := by omega
          go_enter Try.func79, Try.ntmps79
          go_wp2_with (go_at_call 66; refine (HY.out _).mono ?_; rintro e w' ⟨rfl, rfl⟩)
          go_ret
          exact ⟨by rw [hl.out, hm.out, hn.out]; rfl, rfl⟩
        · go_enter Try.func79, Try.ntmps79
          go_wp2_with (go_at_call 66; refine (HY.out _).mono ?_; rintro e w' ⟨rfl, rfl⟩)
          go_ret
          exact ⟨by rw [hl.out, hm.out, hn.out]; rfl, rfl⟩
end Go.Proofs.Ytpncbggjngamgaa
