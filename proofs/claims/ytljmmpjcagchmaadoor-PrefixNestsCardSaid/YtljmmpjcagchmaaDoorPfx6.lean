/-
  prefix.Dotted, Text and the reference's, walked.
-/
import Derived.Test.YtljmmpjcagchmaaDoorPfx5
import Derived.Laws.IdiomStrings
import Derived.Lib.AppendIntMem
import Derived.Lib.ItoaLen
namespace Go.Proofs.YtljmmpjcagchmaaDoor
set_option linter.unusedVariables false
open Go.RowKit

/-- What the library's variables hold. -/
structure Env (w : World) : Prop where
  tab : Lib.TabIs Tryd.prog w "internal/strconv.uint64pow10" .u64 Lib.pow10Tab
  syn : ∃ tp p, w.var? Tryd.prog "strconv.ErrSyntax" = some #[.iface tp p]
  rng : ∃ tp p, w.var? Tryd.prog "strconv.ErrRange" = some #[.iface tp p]
theorem var_later {P : Program} {n : String} {cs : Array Value} {w w' : World} (h : w.var? P n = some cs) (hb : Below w.heap.size w w') : w'.var? P n = some cs := by
  unfold World.var? at h ⊢
  cases hg : P.globalNamed n with
  | none => rw [hg] at h; exact h
  | some g =>
    rw [hg] at h
    simp only [Option.bind_some] at h ⊢
    have hlt : g < w.heap.size := by
      rcases Nat.lt_or_ge g w.heap.size with h1 | h1
      · exact h1
      · rw [Array.getElem?_eq_none h1] at h; cases h
    rw [hb.block g hlt]
    exact h
theorem Env.later {w w' : World} (h : Env w) (hb : Below w.heap.size w w') : Env w' :=
  ⟨var_later h.tab hb, h.syn.elim fun tp k => k.elim fun p e => ⟨tp, p, var_later e hb⟩, h.rng.elim fun tp k => k.elim fun p e => ⟨tp, p, var_later e hb⟩⟩

abbrev str (l : List UInt8) : Value := .string ⟨l.toArray⟩
theorem str_add (l m : List UInt8) : (⟨l.toArray⟩ : ByteArray) ++ (⟨m.toArray⟩ : ByteArray) = ⟨(l ++ m).toArray⟩ := by
  apply ByteArray.ext
  simp

/-- One of the four numbers of an address. -/
def part (a k : Nat) : Nat := a / 2 ^ (24 - 8 * k) % 256
theorem part_lt (a k : Nat) : part a k < 256 := Nat.mod_lt _ (by decide)
/-- The text of the first k. -/
def dotTo (a : Nat) : Nat → List UInt8
  | 0 => []
  | k + 1 => dotTo a k ++ ((if k = 0 then [] else [46]) ++ Lib.decDigits (part a k))
def dotL (a : Nat) : List UInt8 := dotTo a 4
theorem dig_len {u : Nat} (h : u < 256) : 1 ≤ (Lib.decDigits u).length ∧ (Lib.decDigits u).length ≤ 3 := by
  have : ∀ n : Fin 256, 1 ≤ (Lib.decDigits n.val).length ∧ (Lib.decDigits n.val).length ≤ 3 := by
    intro n
    rw [Lib.decDigits_length]
    revert n
    decide +kernel
  exact this ⟨u, h⟩
theorem dotTo_le (a : Nat) : ∀ k, (dotTo a k).length ≤ 4 * k := by
  intro k
  induction k with
  | zero => simp [dotTo]
  | succ k ih =>
    have := (dig_len (part_lt a k)).2
    unfold dotTo
    rw [List.length_append, List.length_append]
    split <;> simp <;> omega

theorem el_u8 : El Tryd.prog 65 5 1 1 := El.mk' Tryd.underlying65 (z := .int .u8 0) (by kernel_rfl) rfl (by decide)

set_option maxRecDepth 100000 in
theorem appU_any (B n u : Nat) (hu : u < 256) (sv : Value) (xs : List Value) (w : World) (hE : Env w) (ho : w.ownsRow B 5 1 sv n xs) (hB : B ≤ w.heap.size) (hn : n ≤ 1000) :
    Calls Tryd.prog 44 #[sv, .int .u64 u, .int .i64 10] w fun e w' => ∃ v', e = .returned v' ∧ w'.ownsRow B 5 1 v' (n + (Lib.decDigits u).length) (xs ++ Lib.byteCells (Lib.decDigits u)) ∧ Below B w w' := by
  have HA : Hid (Calls Tryd.prog 51 #[sv, .int .u64 u, .int .i64 10] w fun e w' => ∃ v', e = .returned v' ∧ w'.ownsRow B 5 1 v' (n + (Lib.decDigits u).length) (xs ++ Lib.byteCells (Lib.decDigits u)) ∧ Below B w w') :=
    (Tryd.internal_strconv_AppendUint_10 B n u (by omega) sv xs w ho hB (by omega) hE.tab).mono fun e w' ⟨v', h1, h2, h3, _⟩ => ⟨v', h1, h2, h3⟩
  clear ho hE
  go_enter Tryd.func44, Tryd.ntmps44
  go_wp2_with fail
  refine HA.out.mono ?_
  rintro e w1 ⟨v1, rfl, h1, h2⟩
  have H1 := Lib.hid h1
  have H2 := Lib.hid h2
  clear h1 h2
  go_wp2_with fail
  go_ret
  exact ⟨_, rfl, H1.out, H2.out⟩

theorem dot_own0 {w : World} {B a : Nat} {t : TypeId} {v : Value} (h : w.ownsRow B t 1 v ((dotTo a 0).length + (Lib.decDigits (part a 0)).length) (Lib.byteCells (dotTo a 0) ++ Lib.byteCells (Lib.decDigits (part a 0)))) :
    w.ownsRow B t 1 v (dotTo a 1).length (Lib.byteCells (dotTo a 1)) := by
  simpa [dotTo, Lib.byteCells] using h
theorem dot_ownS {w : World} {B a k : Nat} {t : TypeId} {v : Value} (hk : k ≠ 0) (h : w.ownsRow B t 1 v ((dotTo a k).length + 1 + (Lib.decDigits (part a k)).length) (Lib.byteCells (dotTo a k) ++ [.int .u8 46] ++ Lib.byteCells (Lib.decDigits (part a k)))) :
    w.ownsRow B t 1 v (dotTo a (k + 1)).length (Lib.byteCells (dotTo a (k + 1))) := by
  have e1 : (dotTo a (k + 1)).length = (dotTo a k).length + 1 + (Lib.decDigits (part a k)).length := by
    rw [dotTo, if_neg hk]; simp; omega
  have e2 : Lib.byteCells (dotTo a (k + 1)) = Lib.byteCells (dotTo a k) ++ [.int .u8 46] ++ Lib.byteCells (Lib.decDigits (part a k)) := by
    rw [dotTo, if_neg hk]; simp [Lib.byteCells]
  rw [e1, e2]; exact h
theorem dotL_pos (a : Nat) : 0 < (dotTo a 4).length := by
  have := (dig_len (part_lt a 3)).1
  rw [dotTo, List.length_append, List.length_append]
  omega
theorem one46 : ∀ u ∈ [Value.int .u8 46], u.oneCell' = true := by intro u hu; simp at hu; subst hu; rfl
theorem and255 (x : Nat) (h : x < 4294967296) : bits BinOp.and IntKind.u32 (x : Int) 255 = ((x % 256 : Nat) : Int) := by
  rw [show (255 : Int) = ((255 : Nat) : Int) from rfl, u32_and_nat _ _ h (by decide), show (255 : Nat) = 2 ^ 8 - 1 from rfl, Nat.and_two_pow_sub_one_eq_mod]
theorem part_int0 (a : Nat) (h : a < 4294967296) : IntKind.u64.wrap (bits BinOp.and IntKind.u32 ((a : Int) / 16777216) 255) = (part a 0 : Nat) := by
  rw [show ((a : Int) / 16777216) = ((a / 16777216 : Nat) : Int) by omega, and255 _ (by omega), IntWalk.u64_in _ (by omega)]; rfl
theorem part_int1 (a : Nat) (h : a < 4294967296) : IntKind.u64.wrap (bits BinOp.and IntKind.u32 ((a : Int) / 65536) 255) = (part a 1 : Nat) := by
  rw [show ((a : Int) / 65536) = ((a / 65536 : Nat) : Int) by omega, and255 _ (by omega), IntWalk.u64_in _ (by omega)]; rfl
theorem part_int2 (a : Nat) (h : a < 4294967296) : IntKind.u64.wrap (bits BinOp.and IntKind.u32 ((a : Int) / 256) 255) = (part a 2 : Nat) := by
  rw [show ((a : Int) / 256) = ((a / 256 : Nat) : Int) by omega, and255 _ (by omega), IntWalk.u64_in _ (by omega)]; rfl
theorem part_int3 (a : Nat) (h : a < 4294967296) : IntKind.u64.wrap (bits BinOp.and IntKind.u32 (a : Int) 255) = (part a 3 : Nat) := by
  rw [and255 _ (by omega), IntWalk.u64_in _ (by omega)]; simp [part]

def DRel (w : World) (a : Nat) (v i : Value) (wr : World) : Prop :=
  ∃ k : Nat, i = .int .i64 k ∧ k ≤ 4 ∧ Hid (wr.ownsRow w.heap.size 5 1 v (dotTo a k).length (Lib.byteCells (dotTo a k))) ∧ Hid (Below w.heap.size w wr)
set_option maxRecDepth 100000 in
set_option maxHeartbeats 2000000 in
theorem dotted_any (a : Nat) (w : World) (ha : a < 4294967296) (hE : Env w) :
    Calls Tryd.prog 18 #[.int .u32 a] w fun e w' => e = .returned (str (dotL a)) ∧ Below w.heap.size w w' := by
  have HE := Lib.hid hE
  clear hE
  have hw0 := part_int0 a ha
  have hw1 := part_int1 a ha
  have hw2 := part_int2 a ha
  have hw3 := part_int3 a ha
  go_enter Tryd.func18, Tryd.ntmps18
  go_wp2
  go_loopw [3, 5] (DRel w a) (fun _ i _ => 4 - (intOf i).toNat)
  case atStart => exact ⟨0, rfl, by omega, World.ownsRow_nil _ _ _ _, Below.refl _ _⟩
  case round =>
    obtain ⟨k, rfl, hk, ho, hb⟩ := hrel
    have hk5 : k = 0 ∨ k = 1 ∨ k = 2 ∨ k = 3 ∨ k = 4 := by omega
    rcases hk5 with rfl | rfl | rfl | rfl | rfl
    · have hl := dotTo_le a 0
      go_wp2_with fail
      refine (appU_any w.heap.size _ (part a 0) (part_lt a 0) _ _ wr (HE.out.later hb.out) ho.out (by have := hb.out.size; omega) (by omega)).mono ?_
      rintro e w2 ⟨v2, rfl, ho2, hb2⟩
      have HO2 := Lib.hid ho2
      have HB2 : Hid (Below w.heap.size w w2) := hb.out.trans hb2
      clear ho2 hb2 hb ho 
      go_wp2_with fail
      go_roundw
      case rel =>
        refine ⟨1, rfl, by omega, ?_, HB2⟩
        show w2.ownsRow w.heap.size 5 1 v2 (dotTo a 1).length (Lib.byteCells (dotTo a 1))
        exact dot_own0 HO2.out
      case measure => simp [intOf]
    · have hl := dotTo_le a 1
      go_wp2_with (at_builtin; refine wpList_app el_u8 rfl (.tmp 10) (.tmp 11) rfl (ho.out.alloc _) rfl (Reads.one_new wr (.int .u8 46) 5) rfl one46 (by simp only [maxLen]; omega) (by omega) (by rw [World.size_alloc]; have := hb.out.size; omega) ?_; intro v1 w1 hown1 hbw1 hg1 hat1; have HO1 := Lib.hid hown1; have HB1 : Hid (Below w.heap.size w w1) := (hb.out.alloc hb.out.size _).trans hbw1; clear hown1 hbw1 hg1 hat1; refine Hid.out ?_)
      refine Lib.hid ?_
      go_wp2_with fail
      refine (appU_any w.heap.size _ (part a 1) (part_lt a 1) _ _ w1 (HE.out.later HB1.out) HO1.out (by have := HB1.out.size; omega) (by omega)).mono ?_
      rintro e w2 ⟨v2, rfl, ho2, hb2⟩
      have HO2 := Lib.hid ho2
      have HB2 : Hid (Below w.heap.size w w2) := HB1.out.trans hb2
      clear ho2 hb2 hb ho HO1 HB1
      go_wp2_with fail
      go_roundw
      case rel =>
        refine ⟨2, rfl, by omega, ?_, HB2⟩
        show w2.ownsRow w.heap.size 5 1 v2 (dotTo a 2).length (Lib.byteCells (dotTo a 2))
        exact dot_ownS (by omega) HO2.out
      case measure => simp [intOf]
    · have hl := dotTo_le a 2
      go_wp2_with (at_builtin; refine wpList_app el_u8 rfl (.tmp 10) (.tmp 11) rfl (ho.out.alloc _) rfl (Reads.one_new wr (.int .u8 46) 5) rfl one46 (by simp only [maxLen]; omega) (by omega) (by rw [World.size_alloc]; have := hb.out.size; omega) ?_; intro v1 w1 hown1 hbw1 hg1 hat1; have HO1 := Lib.hid hown1; have HB1 : Hid (Below w.heap.size w w1) := (hb.out.alloc hb.out.size _).trans hbw1; clear hown1 hbw1 hg1 hat1; refine Hid.out ?_)
      refine Lib.hid ?_
      go_wp2_with fail
      refine (appU_any w.heap.size _ (part a 2) (part_lt a 2) _ _ w1 (HE.out.later HB1.out) HO1.out (by have := HB1.out.size; omega) (by omega)).mono ?_
      rintro e w2 ⟨v2, rfl, ho2, hb2⟩
      have HO2 := Lib.hid ho2
      have HB2 : Hid (Below w.heap.size w w2) := HB1.out.trans hb2
      clear ho2 hb2 hb ho HO1 HB1
      go_wp2_with fail
      go_roundw
      case rel =>
        refine ⟨3, rfl, by omega, ?_, HB2⟩
        show w2.ownsRow w.heap.size 5 1 v2 (dotTo a 3).length (Lib.byteCells (dotTo a 3))
        exact dot_ownS (by omega) HO2.out
      case measure => simp [intOf]
    · have hl := dotTo_le a 3
      go_wp2_with (at_builtin; refine wpList_app el_u8 rfl (.tmp 10) (.tmp 11) rfl (ho.out.alloc _) rfl (Reads.one_new wr (.int .u8 46) 5) rfl one46 (by simp only [maxLen]; omega) (by omega) (by rw [World.size_alloc]; have := hb.out.size; omega) ?_; intro v1 w1 hown1 hbw1 hg1 hat1; have HO1 := Lib.hid hown1; have HB1 : Hid (Below w.heap.size w w1) := (hb.out.alloc hb.out.size _).trans hbw1; clear hown1 hbw1 hg1 hat1; refine Hid.out ?_)
      refine Lib.hid ?_
      go_wp2_with fail
      refine (appU_any w.heap.size _ (part a 3) (part_lt a 3) _ _ w1 (HE.out.later HB1.out) HO1.out (by have := HB1.out.size; omega) (by omega)).mono ?_
      rintro e w2 ⟨v2, rfl, ho2, hb2⟩
      have HO2 := Lib.hid ho2
      have HB2 : Hid (Below w.heap.size w w2) := HB1.out.trans hb2
      clear ho2 hb2 hb ho HO1 HB1
      go_wp2_with fail
      go_roundw
      case rel =>
        refine ⟨4, rfl, by omega, ?_, HB2⟩
        show w2.ownsRow w.heap.size 5 1 v2 (dotTo a 4).length (Lib.byteCells (dotTo a 4))
        exact dot_ownS (by omega) HO2.out
      case measure => simp [intOf]
    · have hpos : 0 < (dotTo a 4).length := dotL_pos a
      have hcv0 := ho.out
      obtain ⟨l, hl⟩ : ∃ l, l = dotTo a 4 := ⟨_, rfl⟩
      rw [← hl] at hcv0 hpos
      have HL := Lib.hid hl
      clear hl ho
      rcases hcv0.2 with ⟨-, h0⟩ | ⟨g, cap, cur, rfl, -, -, -, -, -, -⟩
      · omega
      · have hcv := run_convert_bytes_back (P := Tryd.prog) wr 65 9 5 ⟨g, 0, none⟩ cap l Tryd.underlying65 Tryd.underlying5 Tryd.underlying9 (fun j hj => hcv0.cells (g := g) rfl j _ (by simp [Lib.byteCells, hj]))
        clear hcv0
        go_wp2
        go_ret
        have hl := HL.out
        subst hl
        exact ⟨rfl, hb.out⟩
theorem below_grow (w : World) (k : Nat) (os : Array Obj) : Below w.heap.size w (Go.Sort.grow (w.drewN k) os) :=
  ⟨rfl, rfl, rfl, by show w.heap.size ≤ (w.heap ++ os).size; simp, fun i hi => by
    show (w.heap ++ os)[i]? = w.heap[i]?
    rw [Array.getElem?_append_left hi]⟩
theorem itoa_small (u : Nat) : Lib.itoa (u : Int) = Lib.decDigits u := by unfold Lib.itoa; rw [if_neg (by omega)]; simp
set_option maxRecDepth 100000 in
theorem itoa_any (u : Nat) (hu : u < 256) (w : World) (hE : Env w) :
    Calls Tryd.prog 43 #[.int .i64 u] w fun e w' => e = .returned (str (Lib.decDigits u)) ∧ Below w.heap.size w w' :=
  (Tryd.strconv_Itoa u (by omega) (by omega) w hE.tab).mono fun e w' ⟨h1, k, os, h2⟩ => ⟨by rw [h1, itoa_small], by rw [h2]; exact below_grow w k os⟩

/-- The reference's text, behind j numbers. -/
def refTo (a j : Nat) : List UInt8 := dotTo a j ++ (if j = 0 ∨ 4 ≤ j then [] else [46])
theorem refTo_0 (a : Nat) : refTo a 0 = [] := rfl
theorem refTo_S {a j : Nat} (h : j < 3) : (refTo a j ++ Lib.decDigits (part a j)) ++ [46] = refTo a (j + 1) := by
  have : j = 0 ∨ j = 1 ∨ j = 2 := by omega
  rcases this with rfl | rfl | rfl <;> simp [refTo, dotTo]
theorem refTo_3 (a : Nat) : refTo a 3 ++ Lib.decDigits (part a 3) = dotL a := by simp [refTo, dotL, dotTo]
theorem part_i0 (a : Nat) (h : a < 4294967296) : bits BinOp.and IntKind.u32 ((a : Int) / 16777216) 255 = (part a 0 : Nat) := by
  rw [show ((a : Int) / 16777216) = ((a / 16777216 : Nat) : Int) by omega, and255 _ (by omega)]; rfl
theorem part_i1 (a : Nat) (h : a < 4294967296) : bits BinOp.and IntKind.u32 ((a : Int) / 65536) 255 = (part a 1 : Nat) := by
  rw [show ((a : Int) / 65536) = ((a / 65536 : Nat) : Int) by omega, and255 _ (by omega)]; rfl
theorem part_i2 (a : Nat) (h : a < 4294967296) : bits BinOp.and IntKind.u32 ((a : Int) / 256) 255 = (part a 2 : Nat) := by
  rw [show ((a : Int) / 256) = ((a / 256 : Nat) : Int) by omega, and255 _ (by omega)]; rfl
theorem part_i3 (a : Nat) (h : a < 4294967296) : bits BinOp.and IntKind.u32 (a : Int) 255 = (part a 3 : Nat) := by
  rw [and255 _ (by omega)]; simp [part]
theorem refTo_le (a j : Nat) : (refTo a j).length ≤ 4 * j + 1 := by
  have := dotTo_le a j
  unfold refTo
  rw [List.length_append]
  split <;> simp <;> omega
def QRel (w : World) (a : Nat) (s i : Value) (wr : World) : Prop :=
  ∃ j : Nat, i = .int .i64 (3 - j) ∧ j ≤ 4 ∧ s = (if j = 4 then str (dotL a) else str (refTo a j)) ∧ Hid (Below w.heap.size w wr)
set_option maxRecDepth 100000 in
set_option maxHeartbeats 2000000 in
theorem refDotted_any (a : Nat) (w : World) (ha : a < 4294967296) (hE : Env w) :
    Calls Tryd.prog 19 #[.int .u32 a] w fun e w' => e = .returned (str (dotL a)) ∧ Below w.heap.size w w' := by
  have HE := Lib.hid hE
  clear hE
  have hw0 := part_i0 a ha
  have hw1 := part_i1 a ha
  have hw2 := part_i2 a ha
  have hw3 := part_i3 a ha
  have ha3 := fun j => str_add (refTo a j) (Lib.decDigits (part a j))
  have ha4 := fun j => str_add (refTo a j ++ Lib.decDigits (part a j)) [46]
  go_enter Tryd.func19, Tryd.ntmps19
  go_wp2
  go_loopw [3, 4] (QRel w a) (fun _ i _ => (intOf i + 1).toNat)
  case atStart => exact ⟨0, rfl, by omega, rfl, Below.refl _ _⟩
  case round =>
    obtain ⟨k, rfl, hk, rfl, hb⟩ := hrel
    have hk5 : k = 0 ∨ k = 1 ∨ k = 2 ∨ k = 3 ∨ k = 4 := by omega
    rcases hk5 with rfl | rfl | rfl | rfl | rfl
    · rw [if_neg (by omega)]
      rw [show (3 - ((0 : Nat) : Int)) = 3 from rfl]
      have hI : Hid (∀ W, Env W → Calls Tryd.prog 43 #[.int .i64 (part a 0 : Nat)] W fun e w' => e = .returned (str (Lib.decDigits (part a 0))) ∧ Below W.heap.size W w') := fun W => itoa_any (part a 0) (part_lt a 0) W
      have hl1 : ¬ (9223372036854775807 < (refTo a 0).length + (Lib.decDigits (part a 0)).length) := by have := refTo_le a 0; have := (dig_len (part_lt a 0)).2; omega
      have hl2 : ¬ (9223372036854775807 < (refTo a 0).length + (Lib.decDigits (part a 0)).length + 1) := by have := refTo_le a 0; have := (dig_len (part_lt a 0)).2; omega
      have hw6 : IntKind.i64.wrap ((part a 0 : Nat) : Int) = (part a 0 : Nat) := IntWalk.i64_in _ (by have := part_lt a 0; omega)
      go_wp2_with fail
      refine (hI.out _ (HE.out.later hb.out)).mono ?_
      rintro e w1 ⟨rfl, hb1⟩
      have HB1 := Lib.hid (below_then hb.out hb1)
      clear hb1 hb
      go_wp2_with fail
      go_roundw
      case rel => exact ⟨1, rfl, by omega, by rw [if_neg (by omega)]; have e : (refTo a 0 ++ Lib.decDigits (part a 0)) ++ [46] = refTo a 1 := refTo_S (by omega); rw [← e]; simp only [List.append_assoc], HB1⟩
      case measure => simp [intOf]
    · rw [if_neg (by omega)]
      rw [show (3 - ((1 : Nat) : Int)) = 2 from rfl]
      have hI : Hid (∀ W, Env W → Calls Tryd.prog 43 #[.int .i64 (part a 1 : Nat)] W fun e w' => e = .returned (str (Lib.decDigits (part a 1))) ∧ Below W.heap.size W w') := fun W => itoa_any (part a 1) (part_lt a 1) W
      have hl1 : ¬ (9223372036854775807 < (refTo a 1).length + (Lib.decDigits (part a 1)).length) := by have := refTo_le a 1; have := (dig_len (part_lt a 1)).2; omega
      have hl2 : ¬ (9223372036854775807 < (refTo a 1).length + (Lib.decDigits (part a 1)).length + 1) := by have := refTo_le a 1; have := (dig_len (part_lt a 1)).2; omega
      have hw6 : IntKind.i64.wrap ((part a 1 : Nat) : Int) = (part a 1 : Nat) := IntWalk.i64_in _ (by have := part_lt a 1; omega)
      go_wp2_with fail
      refine (hI.out _ (HE.out.later hb.out)).mono ?_
      rintro e w1 ⟨rfl, hb1⟩
      have HB1 := Lib.hid (below_then hb.out hb1)
      clear hb1 hb
      go_wp2_with fail
      go_roundw
      case rel => exact ⟨2, rfl, by omega, by rw [if_neg (by omega)]; have e : (refTo a 1 ++ Lib.decDigits (part a 1)) ++ [46] = refTo a 2 := refTo_S (by omega); rw [← e]; simp only [List.append_assoc], HB1⟩
      case measure => simp [intOf]
    · rw [if_neg (by omega)]
      rw [show (3 - ((2 : Nat) : Int)) = 1 from rfl]
      have hI : Hid (∀ W, Env W → Calls Tryd.prog 43 #[.int .i64 (part a 2 : Nat)] W fun e w' => e = .returned (str (Lib.decDigits (part a 2))) ∧ Below W.heap.size W w') := fun W => itoa_any (part a 2) (part_lt a 2) W
      have hl1 : ¬ (9223372036854775807 < (refTo a 2).length + (Lib.decDigits (part a 2)).length) := by have := refTo_le a 2; have := (dig_len (part_lt a 2)).2; omega
      have hl2 : ¬ (9223372036854775807 < (refTo a 2).length + (Lib.decDigits (part a 2)).length + 1) := by have := refTo_le a 2; have := (dig_len (part_lt a 2)).2; omega
      have hw6 : IntKind.i64.wrap ((part a 2 : Nat) : Int) = (part a 2 : Nat) := IntWalk.i64_in _ (by have := part_lt a 2; omega)
      go_wp2_with fail
      refine (hI.out _ (HE.out.later hb.out)).mono ?_
      rintro e w1 ⟨rfl, hb1⟩
      have HB1 := Lib.hid (below_then hb.out hb1)
      clear hb1 hb
      go_wp2_with fail
      go_roundw
      case rel => exact ⟨3, rfl, by omega, by rw [if_neg (by omega)]; have e : (refTo a 2 ++ Lib.decDigits (part a 2)) ++ [46] = refTo a 3 := refTo_S (by omega); rw [← e]; simp only [List.append_assoc], HB1⟩
      case measure => simp [intOf]
    · rw [if_neg (by omega)]
      rw [show (3 - ((3 : Nat) : Int)) = 0 from rfl]
      have hI : Hid (∀ W, Env W → Calls Tryd.prog 43 #[.int .i64 (part a 3 : Nat)] W fun e w' => e = .returned (str (Lib.decDigits (part a 3))) ∧ Below W.heap.size W w') := fun W => itoa_any (part a 3) (part_lt a 3) W
      have hl1 : ¬ (9223372036854775807 < (refTo a 3).length + (Lib.decDigits (part a 3)).length) := by have := refTo_le a 3; have := (dig_len (part_lt a 3)).2; omega
      have hl2 : ¬ (9223372036854775807 < (refTo a 3).length + (Lib.decDigits (part a 3)).length + 1) := by have := refTo_le a 3; have := (dig_len (part_lt a 3)).2; omega
      have hw6 : IntKind.i64.wrap ((part a 3 : Nat) : Int) = (part a 3 : Nat) := IntWalk.i64_in _ (by have := part_lt a 3; omega)
      go_wp2_with fail
      refine (hI.out _ (HE.out.later hb.out)).mono ?_
      rintro e w1 ⟨rfl, hb1⟩
      have HB1 := Lib.hid (below_then hb.out hb1)
      clear hb1 hb
      go_wp2_with fail
      go_roundw
      case rel => exact ⟨4, rfl, by omega, by rw [if_pos rfl, ← refTo_3], HB1⟩
      case measure => simp [intOf]
    · rw [if_pos rfl]
      rw [show (3 - ((4 : Nat) : Int)) = -1 from rfl]
      go_wp2
      go_ret
      exact ⟨rfl, hb.out⟩
end Go.Proofs.YtljmmpjcagchmaaDoor
