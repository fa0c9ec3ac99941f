/-
  Equality of rows of bytes and words.
  Copies of words and links; links compared.
  Rows of links compared.
  CopyBody. Printed by gen_sta21.py.
  EqBody.
  EqState.
  Decode.
-/
import Derived.Test.YtljedcfpbdompaaStaM1
namespace Go.Proofs.Ytljedcfpbdompaa
set_option linter.unusedVariables false
open Go.RowKit Go.ChangeShapes Go.WideShapes

theorem u32s_nth (xs : List Int) (k : Nat) : (u32s xs)[k]? = xs[k]?.map (Value.int .u32) := by
  induction xs generalizing k with
  | nil => simp [u32s]
  | cons x xs ih =>
    rw [show u32s (x :: xs) = .int .u32 x :: u32s xs from rfl]
    cases k with
    | zero => simp
    | succ k => simp [ih]
theorem Reads.u32len {w : World} {B n : Nat} {A : Option Addr} {xs : List Int} (h : Reads w B 1 A n (u32s xs)) : xs.length = n := by
  have := h.1
  rw [u32s_len] at this
  omega
theorem Reads.u32at {w : World} {B n k : Nat} {A : Option Addr} {zs : List Int} (h : Reads w B 1 A n (u32s zs)) (hk : k < n) :
    ∃ ad x, A = some ad ∧ ad.block < B ∧ Hid (zs[k]? = some x) ∧ w.cell? (ad.add k) = some (.int .u32 x) := by
  obtain ⟨ad, u, e, hb, hx, hc⟩ := h.at_ hk
  have hx2 := hx
  rw [u32s_nth] at hx2
  obtain ⟨x, hx3, rfl⟩ := Option.map_eq_some_iff.mp hx2
  exact ⟨ad, x, e, hb, hx3, hc⟩
set_option maxHeartbeats 400000 in
theorem sliceEqual_any (A A' : Option Addr) (n c n' c' : Nat) (xs ys : List Int) (w : World) (B B' : Nat)
   (hx : Reads w B 1 A n (u8s xs)) (hy : Reads w B' 1 A' n' (u8s ys)) (hn : n ≤ 9223372036854775807) (hn' : n' ≤ 9223372036854775807) :
    Calls Try.prog 29 #[.slice A n c, .slice A' n' c'] w fun e w' => e = .returned (.bool (decide (xs = ys))) ∧ ∃ k, w' = w.drewN k := by
  have hlx := hx.u8len
  have hly := hy.u8len
  by_cases hl : n = n'
  · obtain rfl := hl
    have Hlx := Lib.hid hlx
    have Hly := Lib.hid hly
    clear hlx hly
    go_enter Try.func29, Try.ntmps29
    go_wp2
    go_loopw [13] (fun i wr => ∃ k : Nat, i = .int .i64 k ∧ k ≤ n ∧ Hid (xs.take k = ys.take k) ∧ ∃ d, wr = w.drewN d) (fun i _ => n - (intOf i).toNat)
    case atStart => exact ⟨0, rfl, by omega, rfl, 0, rfl⟩
    case round =>
      obtain ⟨k, rfl, hk, he, d, rfl⟩ := hrel
      by_cases hlt : k < n
      · obtain ⟨a, x, rfl, _, hx1, h1⟩ := hx.u8at hlt
        obtain ⟨a', y, rfl, _, hy1, h2⟩ := hy.u8at hlt
        by_cases hxy : x = y
        · have hb : (x != y) = false := by simp [hxy]
          have Hxy := Lib.hid hxy
          clear hxy
          go_wp2
          go_quiet (fail)
          go_wp2
          go_roundw
          case rel => exact ⟨k + 1, by go_num, by omega, take_snoc2 hx1 hy1 Hxy.out he, _, rfl⟩
          case measure => simp [intOf]; omega
        · have hb : (x != y) = true := by simp [hxy]
          have hne := u8s_nth_ne hx1 hy1 hxy
          clear hxy
          go_wp2
          go_quiet (fail)
          go_wp2
          go_ret
          exact ⟨by simp [hne], _, World.drewN_drewN ..⟩
      · obtain rfl : n = k := by omega
        have heq : xs = ys := by have := he.out; rwa [List.take_of_length_le (by rw [Hlx.out]; omega), List.take_of_length_le (by rw [Hly.out]; omega)] at this
        clear Hlx Hly he
        go_wp2
        go_ret
        exact ⟨by simp [heq], _, rfl⟩
  · have hb : ((n : Int) != (n' : Int)) = true := by simp; omega
    have hne : xs ≠ ys := by rintro rfl; omega
    clear hlx hly
    go_enter Try.func29, Try.ntmps29
    go_wp2
    go_ret
    exact ⟨by simp [hne], 0, rfl⟩

set_option maxHeartbeats 400000 in
theorem eqWords_any (A A' : Option Addr) (n c n' c' : Nat) (xs ys : List Int) (w : World) (B B' : Nat)
   (hx : Reads w B 1 A n (u32s xs)) (hy : Reads w B' 1 A' n' (u32s ys)) (hn : n ≤ 9223372036854775807) (hn' : n' ≤ 9223372036854775807) :
    Calls Try.prog 31 #[.slice A n c, .slice A' n' c'] w fun e w' => e = .returned (.bool (decide (xs = ys))) ∧ ∃ k, w' = w.drewN k := by
  have hlx := hx.u32len
  have hly := hy.u32len
  by_cases hl : n = n'
  · obtain rfl := hl
    have Hlx := Lib.hid hlx
    have Hly := Lib.hid hly
    clear hlx hly
    go_enter Try.func31, Try.ntmps31
    go_wp2
    go_loopw [5] (fun i wr => ∃ k : Nat, i = .int .i64 k ∧ k ≤ n ∧ Hid (xs.take k = ys.take k) ∧ ∃ d, wr = w.drewN d) (fun i _ => n - (intOf i).toNat)
    case atStart => exact ⟨0, rfl, by omega, rfl, 0, rfl⟩
    case round =>
      obtain ⟨k, rfl, hk, he, d, rfl⟩ := hrel
      by_cases hlt : k < n
      · obtain ⟨a, x, rfl, _, hx1, h1⟩ := hx.u32at hlt
        obtain ⟨a', y, rfl, _, hy1, h2⟩ := hy.u32at hlt
        by_cases hxy : x = y
        · have hb : (x != y) = false := by simp [hxy]
          have Hxy := Lib.hid hxy
          clear hxy
          go_wp2
          go_quiet (fail)
          go_wp2
          go_roundw
          case rel => exact ⟨k + 1, by go_num, by omega, take_snoc2 hx1 hy1 Hxy.out he, _, rfl⟩
          case measure => simp [intOf]; omega
        · have hb : (x != y) = true := by simp [hxy]
          have hne := u8s_nth_ne hx1 hy1 hxy
          clear hxy
          go_wp2
          go_quiet (fail)
          go_wp2
          go_ret
          exact ⟨by simp [hne], _, World.drewN_drewN ..⟩
      · obtain rfl : n = k := by omega
        have heq : xs = ys := by have := he.out; rwa [List.take_of_length_le (by rw [Hlx.out]; omega), List.take_of_length_le (by rw [Hly.out]; omega)] at this
        clear Hlx Hly he
        go_wp2
        go_ret
        exact ⟨by simp [heq], _, rfl⟩
  · have hb : ((n : Int) != (n' : Int)) = true := by simp; omega
    have hne : xs ≠ ys := by rintro rfl; omega
    clear hlx hly
    go_enter Try.func31, Try.ntmps31
    go_wp2
    go_ret
    exact ⟨by simp [hne], 0, rfl⟩

end Go.Proofs.Ytljedcfpbdompaa
namespace Go.Proofs.Ytljedcfpbdompaa
set_option linter.unusedVariables false
open Go.RowKit Go.ChangeShapes Go.WideShapes

theorem u32s_one {xs : List Int} : ∀ u ∈ u32s xs, u.oneCell' = true := by
  intro u hu
  obtain ⟨x, _, hx⟩ := List.mem_flatMap.mp hu
  simp only [List.mem_singleton] at hx
  subst hx
  rfl
theorem lks_one {L : List Lk} : ∀ u ∈ L.flatMap Lk.cells, u.oneCell' = true := by
  intro u hu
  obtain ⟨x, _, hx⟩ := List.mem_flatMap.mp hu
  exact lk_one x u hx
theorem copyWords_any (A : Option Addr) (n c : Nat) (xs : List Int) (w : World) (hx : Reads w w.heap.size 1 A n (u32s xs)) (hn : n ≤ 1099511627776) :
    Calls Try.prog 25 #[.slice A n c] w fun e w' => ∃ v, e = .returned v ∧ w'.ownsRow w.heap.size 23 1 v n (u32s xs) ∧ Below w.heap.size w w' := by
  have hlx := Lib.hid hx.u32len
  go_enter Try.func25, Try.ntmps25
  go_wp2_with (at_builtin; refine wpList_app el_u32 rfl _ _ rfl (World.ownsRow_nil _ w.heap.size _ _) rfl hx rfl u32s_one (by simp only [maxLen]; omega) (by omega) (Nat.le_refl _) ?_; intro v w1 hown hbel _ _)
  go_ret
  exact ⟨v, rfl, by simpa using hown, hbel⟩
theorem copyLinks_any (A : Option Addr) (n c : Nat) (L : List Lk) (w : World) (hx : Reads w w.heap.size 4 A n (L.flatMap Lk.cells)) (hn : n ≤ 1073741824) :
    Calls Try.prog 24 #[.slice A n c] w fun e w' => ∃ v, e = .returned v ∧ w'.ownsRow w.heap.size 90 4 v n (L.flatMap Lk.cells) ∧ Below w.heap.size w w' := by
  go_enter Try.func24, Try.ntmps24
  go_wp2_with (at_builtin; refine wpList_app el_link rfl _ _ rfl (World.ownsRow_nil _ w.heap.size _ _) rfl hx rfl lks_one (by simp only [maxLen]; omega) (by omega) (Nat.le_refl _) ?_; intro v w1 hown hbel _ _)
  go_ret
  exact ⟨v, rfl, by simpa using hown, hbel⟩
theorem lk_fields : (Try.prog.fieldsOf 90).toList = [{ name := "ID", type := 23, offset := 0, embedded := false, tag := "", pkgPath := "", byteOffset := 0 }, { name := "Data", type := 23, offset := 1, embedded := false, tag := "", pkgPath := "", byteOffset := 4 }, { name := "Type", type := 5, offset := 2, embedded := false, tag := "", pkgPath := "", byteOffset := 8 }, { name := "Cost", type := 22, offset := 3, embedded := false, tag := "", pkgPath := "", byteOffset := 10 }] := by kernel_rfl
instance : DecidableEq Lk := fun a b => by
  obtain ⟨a1, a2, a3, a4⟩ := a
  obtain ⟨b1, b2, b3, b4⟩ := b
  exact decidable_of_iff (a1 = b1 ∧ a2 = b2 ∧ a3 = b3 ∧ a4 = b4) (by simp)
theorem lk_eq (a b : Lk) (w : World) : (Op.equalIn 10000 90 (.agg #[.int .u32 a.id, .int .u32 a.data, .int .u8 a.typ, .int .u16 a.cost]) (.agg #[.int .u32 b.id, .int .u32 b.data, .int .u8 b.typ, .int .u16 b.cost])).run Try.prog w = .ok (decide (a = b)) w := by
  obtain ⟨a1, a2, a3, a4⟩ := a
  obtain ⟨b1, b2, b3, b4⟩ := b
  rw [show (10000 : Nat) = 9999 + 1 from rfl, run_equalIn_agg w 9999 90 _ _ (by kernel_rfl) (by kernel_rfl), lk_fields]
  go_simp
  by_cases h1 : a1 = b1 <;> by_cases h2 : a2 = b2 <;> by_cases h3 : a3 = b3 <;> by_cases h4 : a4 = b4 <;> simp [h1, h2, h3, h4]
theorem lk_neq (a b : Lk) (W : World) : (binOp .neq 90 (.agg #[.int .u32 a.id, .int .u32 a.data, .int .u8 a.typ, .int .u16 a.cost]) (.agg #[.int .u32 b.id, .int .u32 b.data, .int .u8 b.typ, .int .u16 b.cost])).run Try.prog W = .ok (.bool (!decide (a = b))) W := by
  rw [run_neq_struct, lk_eq]
  simp
theorem lk_guard (x y : Operand) (a b : Lk) (W : World) : (eqGuard .neq 90 x y (.agg #[.int .u32 a.id, .int .u32 a.data, .int .u8 a.typ, .int .u16 a.cost]) (.agg #[.int .u32 b.id, .int .u32 b.data, .int .u8 b.typ, .int .u16 b.cost])).run Try.prog W = .ok () W :=
  run_eqGuard_agg _ _ _ _ _ _ _ Try.eqGuardType90
end Go.Proofs.Ytljedcfpbdompaa
namespace Go.Proofs.Ytljedcfpbdompaa
set_option linter.unusedVariables false
open Go.RowKit Go.ChangeShapes Go.WideShapes

theorem nth_ne {α : Type} {xs ys : List α} {k : Nat} {x y : α} (h1 : Hid (xs[k]? = some x)) (h2 : Hid (ys[k]? = some y)) (h : x ≠ y) : xs ≠ ys := by
  rintro rfl
  have a := h1.out
  have b := h2.out
  rw [a] at b
  exact h (by injection b)
theorem take_snoc3 {α : Type} {xs ys : List α} {k : Nat} {x y : α} (h1 : Hid (xs[k]? = some x)) (h2 : Hid (ys[k]? = some y)) (h : x = y) (he : Hid (xs.take k = ys.take k)) : Hid (xs.take (k+1) = ys.take (k+1)) := by
  subst h
  have e : xs.take (k+1) = ys.take (k+1) := by rw [List.take_add_one, List.take_add_one, he.out, h1.out, h2.out]
  exact e
set_option maxHeartbeats 1000000 in
theorem eqLinks_any (A A' : Option Addr) (n c n' c' : Nat) (xs ys : List Lk) (w : World) (B B' : Nat)
   (hx : Reads w B 4 A n (xs.flatMap Lk.cells)) (hy : Reads w B' 4 A' n' (ys.flatMap Lk.cells)) (hlx : xs.length = n) (hly : ys.length = n') (hn : n ≤ 1073741824) (hn' : n' ≤ 1073741824) :
    Calls Try.prog 30 #[.slice A n c, .slice A' n' c'] w fun e w' => e = .returned (.bool (decide (xs = ys))) ∧ ∃ k, w' = w.drewN k := by
  by_cases hl : n = n'
  · obtain rfl := hl
    have Hlx := Lib.hid hlx
    have Hly := Lib.hid hly
    have HX := Lib.hid hx
    have HY := Lib.hid hy
    clear hlx hly hx hy
    go_enter Try.func30, Try.ntmps30
    go_wp2
    go_loopw [5] (fun i wr => ∃ k : Nat, i = .int .i64 k ∧ k ≤ n ∧ Hid (xs.take k = ys.take k) ∧ ∃ d, wr = w.drewN d) (fun i _ => n - (intOf i).toNat)
    case atStart => exact ⟨0, rfl, by omega, rfl, 0, rfl⟩
    case round =>
      obtain ⟨k, rfl, hk, he, d, rfl⟩ := hrel
      by_cases hlt : k < n
      · obtain ⟨ad, x, hA, -, hx1, h0, hj⟩ := rowG_at lk_len HX.out Hlx.out hlt
        obtain ⟨ad', y, hA', -, hy1, h0', hj'⟩ := rowG_at lk_len HY.out Hly.out hlt
        subst hA hA'
        have l0 := h0 _ rfl
        have l1 := hj 1 _ (by decide) rfl
        have l2 := hj 2 _ (by decide) rfl
        have l3 := hj 3 _ (by decide) rfl
        have m0 := h0' _ rfl
        have m1 := hj' 1 _ (by decide) rfl
        have m2 := hj' 2 _ (by decide) rfl
        have m3 := hj' 3 _ (by decide) rfl
        have HX1 := Lib.hid hx1
        have HY1 := Lib.hid hy1
        clear h0 h0' hj hj' hx1 hy1 HX HY
        by_cases hxy : x = y
        · have hq : ∀ W : World, (Op.equalIn 10000 90 (.agg #[.int .u32 x.id, .int .u32 x.data, .int .u8 x.typ, .int .u16 x.cost]) (.agg #[.int .u32 y.id, .int .u32 y.data, .int .u8 y.typ, .int .u16 y.cost])).run Try.prog W = .ok true W := fun W => by rw [lk_eq]; simp [hxy]
          have Hxy := Lib.hid hxy
          clear hxy
          go_wp2
          go_quiet (fail)
          go_wp2
          go_roundw
          case rel => exact ⟨k + 1, by go_num, by omega, take_snoc3 HX1 HY1 Hxy.out he, _, rfl⟩
          case measure => simp [intOf]; omega
        · have hq : ∀ W : World, (Op.equalIn 10000 90 (.agg #[.int .u32 x.id, .int .u32 x.data, .int .u8 x.typ, .int .u16 x.cost]) (.agg #[.int .u32 y.id, .int .u32 y.data, .int .u8 y.typ, .int .u16 y.cost])).run Try.prog W = .ok false W := fun W => by rw [lk_eq]; simp [hxy]
          have hne := nth_ne HX1 HY1 hxy
          clear hxy
          go_wp2
          go_quiet (fail)
          go_wp2
          go_ret
          exact ⟨by simp [hne], _, World.drewN_drewN ..⟩
      · obtain rfl : n = k := by omega
        have heq : xs = ys := by have := he.out; rwa [List.take_of_length_le (by rw [Hlx.out]; omega), List.take_of_length_le (by rw [Hly.out]; omega)] at this
        clear Hlx Hly he
        go_wp2
        go_ret
        exact ⟨by simp [heq], _, rfl⟩
  · have hb : ((n : Int) != (n' : Int)) = true := by simp; omega
    have hne : xs ≠ ys := by rintro rfl; omega
    clear hlx hly
    go_enter Try.func30, Try.ntmps30
    go_wp2
    go_ret
    exact ⟨by simp [hne], 0, rfl⟩
end Go.Proofs.Ytljedcfpbdompaa
namespace Go.Proofs.Ytljedcfpbdompaa
set_option linter.unusedVariables false
open Go.RowKit Go.ChangeShapes Go.WideShapes

/-- Two bodies that say the same. -/
structure SameB (b b' : BA) : Prop where
  flags : b'.flags = b.flags
  links : b'.links = b.links
  mask : b'.mask = b.mask
  routers : b'.routers = b.routers
  metric : b'.metric = b.metric
  t2 : b'.t2 = b.t2
  fwd : b'.fwd = b.fwd
  tag : b'.tag = b.tag
  data : b'.data = b.data
set_option maxRecDepth 100000 in
set_option maxHeartbeats 8000000 in
theorem copyBody_any (b : BA) (w : World) (hb : b.rd w) : Calls Try.prog 9 #[b.v] w fun e w' => ∃ b', e = .returned (BA.v b') ∧ SameB b b' ∧ BA.rd w' b' ∧ Below w.heap.size w w' := by
  have HO := Lib.hid hb
  have HX : Hid (Blk ((w.alloc (.cells #[.int .u8 b.flags, .slice b.LA b.ln b.lc, .int .u32 b.mask, .slice b.RA b.rn b.rc, .int .u32 b.metric, .bool b.t2, .int .u32 b.fwd, .int .u32 b.tag, .slice b.DA b.dn b.dc] 30)).alloc (.cells #[.int .u8 0, .slice none 0 0, .int .u32 0, .slice none 0 0, .int .u32 0, .bool false, .int .u32 0, .int .u32 0, .slice none 0 0] 30)) w.heap.size 30 #[.int .u8 b.flags, .slice b.LA b.ln b.lc, .int .u32 b.mask, .slice b.RA b.rn b.rc, .int .u32 b.metric, .bool b.t2, .int .u32 b.fwd, .int .u32 b.tag, .slice b.DA b.dn b.dc]) := Lib.hid ((Blk.new _ _ _).alloc _)
  have HZ : Hid (Blk ((w.alloc (.cells #[.int .u8 b.flags, .slice b.LA b.ln b.lc, .int .u32 b.mask, .slice b.RA b.rn b.rc, .int .u32 b.metric, .bool b.t2, .int .u32 b.fwd, .int .u32 b.tag, .slice b.DA b.dn b.dc] 30)).alloc (.cells #[.int .u8 0, .slice none 0 0, .int .u32 0, .slice none 0 0, .int .u32 0, .bool false, .int .u32 0, .int .u32 0, .slice none 0 0] 30)) (w.heap.size + 1) 30 #[.int .u8 0, .slice none 0 0, .int .u32 0, .slice none 0 0, .int .u32 0, .bool false, .int .u32 0, .int .u32 0, .slice none 0 0]) := new_at _ _ _
  have HB : Hid (Below w.heap.size w ((w.alloc (.cells #[.int .u8 b.flags, .slice b.LA b.ln b.lc, .int .u32 b.mask, .slice b.RA b.rn b.rc, .int .u32 b.metric, .bool b.t2, .int .u32 b.fwd, .int .u32 b.tag, .slice b.DA b.dn b.dc] 30)).alloc (.cells #[.int .u8 0, .slice none 0 0, .int .u32 0, .slice none 0 0, .int .u32 0, .bool false, .int .u32 0, .int .u32 0, .slice none 0 0] 30))) := below_two _ _ _
  clear hb
  show Calls Try.prog 9 #[.agg #[.int .u8 b.flags, .slice b.LA b.ln b.lc, .int .u32 b.mask, .slice b.RA b.rn b.rc, .int .u32 b.metric, .bool b.t2, .int .u32 b.fwd, .int .u32 b.tag, .slice b.DA b.dn b.dc]] w _
  go_enter Try.func9, Try.ntmps9
  have y1 := HX.out.cell 1
  go_wp2_with fail
  clear y1
  generalize hgx : w.heap.size = gx at *
  generalize hgr : gx + 1 = gr at *
  have HG := Lib.hid (And.intro hgx hgr)
  clear hgx hgr
  generalize (w.alloc (.cells #[.int .u8 b.flags, .slice b.LA b.ln b.lc, .int .u32 b.mask, .slice b.RA b.rn b.rc, .int .u32 b.metric, .bool b.t2, .int .u32 b.fwd, .int .u32 b.tag, .slice b.DA b.dn b.dc] 30)).alloc (.cells #[.int .u8 0, .slice none 0 0, .int .u32 0, .slice none 0 0, .int .u32 0, .bool false, .int .u32 0, .int .u32 0, .slice none 0 0] 30) = w0 at *
  have few0 := HO.out.few
  refine (copyLinks_any b.LA b.ln b.lc b.links w0 (HO.out.lrow.later (by rw [HG.out.1]; exact HB.out)) (by omega)).mono ?_
  clear few0
  rintro e p0 ⟨u0, rfl, hu, hbl⟩
  replace hu := own_mono hu (show gx ≤ w0.heap.size from by have := HB.out.size; have h2 := HG.out.1; omega)
  obtain ⟨A0, c0, hv0, hc1, hc2, -⟩ := own_shape_n hu
  subst hv0
  have HC0 := Lib.hid (And.intro hc1 hc2)
  have HU0 := Lib.hid hu
  replace HX := Lib.hid (HX.out.later hbl)
  replace HZ := Lib.hid (HZ.out.later hbl)
  replace HB := Lib.hid (below_then (by rw [HG.out.1]; exact HB.out) hbl)
  clear hbl hu hc1 hc2
  have y := HX.out.cell 1
  have f := HX.out.frozen 1
  have HU02 := Lib.hid (own_kept HU0.out (kept_setC p0 gx 1 (.slice A0 b.ln c0)) (fun i hi e => own_blk_ne HU0.out HX.out (by decide) (by rw [hi]; exact congrArg some e)))
  have HX2 : Hid (Blk (p0.setCell ⟨gx, 1, none⟩ (.slice A0 b.ln c0)) gx 30 #[.int .u8 b.flags, .slice A0 b.ln c0, .int .u32 b.mask, .slice b.RA b.rn b.rc, .int .u32 b.metric, .bool b.t2, .int .u32 b.fwd, .int .u32 b.tag, .slice b.DA b.dn b.dc]) := Lib.hid (HX.out.set_ 1 _)
  have HZ2 := Lib.hid (HZ.out.far (p := ⟨gx, 1, none⟩) (by have := HG.out; simp only; omega) (.slice A0 b.ln c0))
  have HB2 := Lib.hid (HB.out.setCell (p := ⟨gx, 1, none⟩) (by have := HG.out; simp only; omega) (.slice A0 b.ln c0))
  have y2 := HX2.out.cell 3
  go_wp2_with fail
  clear y f y2 HX HZ HB HU0
  generalize p0.setCell ⟨gx, 1, none⟩ (.slice A0 b.ln c0) = v1 at *
  have HX := HX2
  have HZ := HZ2
  have HB : Hid (Below w.heap.size w v1) := HB2
  have HU0 := HU02
  clear HX2 HZ2 HB2 HU02
  rw [HG.out.1] at HB
  have few1 := HO.out.few
  refine (copyWords_any b.RA b.rn b.rc b.routers v1 (HO.out.rrow.later (by rw [HG.out.1]; exact HB.out)) (by omega)).mono ?_
  clear few1
  rintro e p1 ⟨u1, rfl, hu, hbl⟩
  replace hu := own_mono hu (show gx ≤ v1.heap.size from by have := HB.out.size; have h2 := HG.out.1; omega)
  obtain ⟨A1, c1, hv1, hc1, hc2, -⟩ := own_shape_n hu
  subst hv1
  have HC1 := Lib.hid (And.intro hc1 hc2)
  have HU1 := Lib.hid hu
  replace HU0 := Lib.hid (own_kept HU0.out (Kept.of_new hbl (fun _ => False)) (fun _ _ h => h))
  replace HX := Lib.hid (HX.out.later hbl)
  replace HZ := Lib.hid (HZ.out.later hbl)
  replace HB := Lib.hid (below_then (by rw [HG.out.1]; exact HB.out) hbl)
  clear hbl hu hc1 hc2
  have y := HX.out.cell 3
  have f := HX.out.frozen 3
  have HU02 := Lib.hid (own_kept HU0.out (kept_setC p1 gx 3 (.slice A1 b.rn c1)) (fun i hi e => own_blk_ne HU0.out HX.out (by decide) (by rw [hi]; exact congrArg some e)))
  have HU12 := Lib.hid (own_kept HU1.out (kept_setC p1 gx 3 (.slice A1 b.rn c1)) (fun i hi e => own_blk_ne HU1.out HX.out (by decide) (by rw [hi]; exact congrArg some e)))
  have HX2 : Hid (Blk (p1.setCell ⟨gx, 3, none⟩ (.slice A1 b.rn c1)) gx 30 #[.int .u8 b.flags, .slice A0 b.ln c0, .int .u32 b.mask, .slice A1 b.rn c1, .int .u32 b.metric, .bool b.t2, .int .u32 b.fwd, .int .u32 b.tag, .slice b.DA b.dn b.dc]) := Lib.hid (HX.out.set_ 3 _)
  have HZ2 := Lib.hid (HZ.out.far (p := ⟨gx, 3, none⟩) (by have := HG.out; simp only; omega) (.slice A1 b.rn c1))
  have HB2 := Lib.hid (HB.out.setCell (p := ⟨gx, 3, none⟩) (by have := HG.out; simp only; omega) (.slice A1 b.rn c1))
  have y2 := HX2.out.cell 8
  go_wp2_with fail
  clear y f y2 HX HZ HB HU0 HU1
  generalize p1.setCell ⟨gx, 3, none⟩ (.slice A1 b.rn c1) = v2 at *
  have HX := HX2
  have HZ := HZ2
  have HB : Hid (Below w.heap.size w v2) := HB2
  have HU0 := HU02
  have HU1 := HU12
  clear HX2 HZ2 HB2 HU02 HU12
  rw [HG.out.1] at HB
  have few2 := HO.out.few
  refine (copyBytes_any b.DA b.dn b.dc b.data v2 (HO.out.drow.later (by rw [HG.out.1]; exact HB.out)) (by omega)).mono ?_
  clear few2
  rintro e p2 ⟨u2, rfl, hu, hbl⟩
  rw [show b.data.length = b.dn from HO.out.drow.u8len] at hu
  replace hu := own_mono hu (show gx ≤ v2.heap.size from by have := HB.out.size; have h2 := HG.out.1; omega)
  obtain ⟨A2, c2, hv2, hc1, hc2, -⟩ := own_shape_n hu
  subst hv2
  have HC2 := Lib.hid (And.intro hc1 hc2)
  have HU2 := Lib.hid hu
  replace HU0 := Lib.hid (own_kept HU0.out (Kept.of_new hbl (fun _ => False)) (fun _ _ h => h))
  replace HU1 := Lib.hid (own_kept HU1.out (Kept.of_new hbl (fun _ => False)) (fun _ _ h => h))
  replace HX := Lib.hid (HX.out.later hbl)
  replace HZ := Lib.hid (HZ.out.later hbl)
  replace HB := Lib.hid (below_then (by rw [HG.out.1]; exact HB.out) hbl)
  clear hbl hu hc1 hc2
  have y := HX.out.cell 8
  have f := HX.out.frozen 8
  have HU02 := Lib.hid (own_kept HU0.out (kept_setC p2 gx 8 (.slice A2 b.dn c2)) (fun i hi e => own_blk_ne HU0.out HX.out (by decide) (by rw [hi]; exact congrArg some e)))
  have HU12 := Lib.hid (own_kept HU1.out (kept_setC p2 gx 8 (.slice A2 b.dn c2)) (fun i hi e => own_blk_ne HU1.out HX.out (by decide) (by rw [hi]; exact congrArg some e)))
  have HU22 := Lib.hid (own_kept HU2.out (kept_setC p2 gx 8 (.slice A2 b.dn c2)) (fun i hi e => own_blk_ne HU2.out HX.out (by decide) (by rw [hi]; exact congrArg some e)))
  have HX2 : Hid (Blk (p2.setCell ⟨gx, 8, none⟩ (.slice A2 b.dn c2)) gx 30 #[.int .u8 b.flags, .slice A0 b.ln c0, .int .u32 b.mask, .slice A1 b.rn c1, .int .u32 b.metric, .bool b.t2, .int .u32 b.fwd, .int .u32 b.tag, .slice A2 b.dn c2]) := Lib.hid (HX.out.set_ 8 _)
  have HZ2 := Lib.hid (HZ.out.far (p := ⟨gx, 8, none⟩) (by have := HG.out; simp only; omega) (.slice A2 b.dn c2))
  have HB2 := Lib.hid (HB.out.setCell (p := ⟨gx, 8, none⟩) (by have := HG.out; simp only; omega) (.slice A2 b.dn c2))
  obtain ⟨b0, b1, b2, b3, b4, b5, b6, b7, b8⟩ := body_facts HX2.out
  go_wp2_with (clear y f b0 b1 b2 b3 b4 b5 b6 b7 b8; generalize p2.setCell ⟨gx, 8, none⟩ (.slice A2 b.dn c2) = v3 at *; refine wpList_store_row rfl 30 _ _ rfl gr #[.int .u8 b.flags, .slice A0 b.ln c0, .int .u32 b.mask, .slice A1 b.rn c1, .int .u32 b.metric, .bool b.t2, .int .u32 b.fwd, .int .u32 b.tag, .slice A2 b.dn c2] rfl rfl 30 _ HZ2.out info_body rfl (by simp [Value.oneCell']) ?_)
  have few := HO.out.few
  have hso := fun (e : TypeId) (sz n : Nat) (v : Value) (xs : List Value) (h : v3.ownsRow gx e sz v n xs) (hne : e ≠ 30) => own_kept h ((Kept.of_grown (only_setRow v3 gr #[.int .u8 b.flags, .slice A0 b.ln c0, .int .u32 b.mask, .slice A1 b.rn c1, .int .u32 b.metric, .bool b.t2, .int .u32 b.fwd, .int .u32 b.tag, .slice A2 b.dn c2])).mono (T := fun i => i = gr) fun i _ e => by simpa using e.symm) (fun i hi e => own_blk_ne h HZ2.out hne (by rw [hi]; exact congrArg some e))
  refine bodyPost_ret (results_cell_row rfl _ _ gr 30 #[.int .u8 b.flags, .slice A0 b.ln c0, .int .u32 b.mask, .slice A1 b.rn c1, .int .u32 b.metric, .bool b.t2, .int .u32 b.fwd, .int .u32 b.tag, .slice A2 b.dn c2] (0, 0) _ rfl (HZ2.out.setRow _) Try.underlying30 rfl info_body) rfl ⟨⟨b.flags, A0, b.ln, c0, b.links, b.mask, A1, b.rn, c1, b.routers, b.metric, b.t2, b.fwd, b.tag, A2, b.dn, c2, b.data⟩, rfl, ⟨rfl, rfl, rfl, rfl, rfl, rfl, rfl, rfl, rfl⟩, ?_, ?_⟩
  · have ho := HO.out
    exact ⟨ho.flags, Reads.of_own (hso _ _ _ _ _ HU02.out (by decide)), ho.llen, ho.lok, ho.mask, Reads.of_own (hso _ _ _ _ _ HU12.out (by decide)), ho.rlen, ho.rok, ho.metric, ho.fwd, ho.tag, Reads.of_own (hso _ _ _ _ _ HU22.out (by decide)), ho.doct, ⟨HC0.out.1, HC0.out.2, HC1.out.1, HC1.out.2, HC2.out.1, HC2.out.2⟩, ho.few⟩
  · exact below_setRow HB2.out (by have := HG.out; omega) _
end Go.Proofs.Ytljedcfpbdompaa
namespace Go.Proofs.Ytljedcfpbdompaa
set_option linter.unusedVariables false
open Go.RowKit Go.ChangeShapes Go.WideShapes

def eqB (a b : BA) : Bool := decide (a.flags = b.flags) && decide (a.mask = b.mask) && decide (a.metric = b.metric) && decide (a.t2 = b.t2) && decide (a.fwd = b.fwd) && decide (a.tag = b.tag) && decide (a.links = b.links) && decide (a.routers = b.routers) && decide (a.data = b.data)
set_option maxRecDepth 100000 in
set_option maxHeartbeats 8000000 in
theorem eqBody_any (a b : BA) (w : World) (ha : a.rd w) (hb : b.rd w) : Calls Try.prog 12 #[a.v, b.v] w fun e w' => e = .returned (.bool (eqB a b)) ∧ Below w.heap.size w w' := by
  have HA := Lib.hid ha
  have HB := Lib.hid hb
  have X1 : Hid (Blk ((w.alloc (.cells a.C 30)).alloc (.cells b.C 30)) w.heap.size 30 a.C) := Lib.hid ((Blk.new _ _ _).alloc _)
  have X2 : Hid (Blk ((w.alloc (.cells a.C 30)).alloc (.cells b.C 30)) (w.heap.size + 1) 30 b.C) := new_at _ _ _
  have HW : Hid (Below w.heap.size w ((w.alloc (.cells a.C 30)).alloc (.cells b.C 30))) := below_two _ _ _
  clear ha hb
  have HL := Lib.hid (fun (W : World) (hW : Below w.heap.size w W) => eqLinks_any a.LA b.LA a.ln a.lc b.ln b.lc a.links b.links W _ _ (HA.out.lrow.later hW) (HB.out.lrow.later hW) HA.out.llen HB.out.llen HA.out.few.1 HB.out.few.1)
  have HR := Lib.hid (fun (W : World) (hW : Below w.heap.size w W) => eqWords_any a.RA b.RA a.rn a.rc b.rn b.rc a.routers b.routers W _ _ (HA.out.rrow.later hW) (HB.out.rrow.later hW) (by have := HA.out.few; omega) (by have := HB.out.few; omega))
  have HD := Lib.hid (fun (W : World) (hW : Below w.heap.size w W) => eqBytes_any a.DA b.DA a.dn a.dc b.dn b.dc a.data b.data W _ _ (HA.out.drow.later hW) (HB.out.drow.later hW) (by have := HA.out.few; omega) (by have := HB.out.few; omega))
  obtain ⟨a0, a1, a2, a3, a4, a5, a6, a7, a8⟩ := body_facts X1.out
  obtain ⟨b0, b1, b2, b3, b4, b5, b6, b7, b8⟩ := body_facts X2.out
  by_cases h0 : a.flags = b.flags
  · have e0 : (a.flags == b.flags) = true := by simp [h0]
    have H0 := Lib.hid h0
    clear h0
    by_cases h1 : a.mask = b.mask
    · have e1 : (a.mask == b.mask) = true := by simp [h1]
      have H1 := Lib.hid h1
      clear h1
      by_cases h2 : a.metric = b.metric
      · have e2 : (a.metric == b.metric) = true := by simp [h2]
        have H2 := Lib.hid h2
        clear h2
        by_cases h3 : a.t2 = b.t2
        · have e3 : (a.t2 == b.t2) = true := by simp [h3]
          have H3 := Lib.hid h3
          clear h3
          by_cases h4 : a.fwd = b.fwd
          · have e4 : (a.fwd == b.fwd) = true := by simp [h4]
            have H4 := Lib.hid h4
            clear h4
            by_cases h5 : a.tag = b.tag
            · have e5 : (a.tag == b.tag) = true := by simp [h5]
              have H5 := Lib.hid h5
              clear h5
              go_enter Try.func12, Try.ntmps12
              go_wp2_with fail
              clear a0 a1 a2 a3 a4 a5 a6 a7 a8 b0 b1 b2 b3 b4 b5 b6 b7 b8
              generalize (w.alloc (.cells a.C 30)).alloc (.cells b.C 30) = w0 at *
              refine (HL.out w0 HW.out).mono ?_
              rintro e w1 ⟨rfl, k, rfl⟩
              replace X1 := Lib.hid (show Blk (w0.drewN k) w.heap.size 30 a.C from X1.out)
              replace X2 := Lib.hid (show Blk (w0.drewN k) (w.heap.size + 1) 30 b.C from X2.out)
              replace HW := Lib.hid (below_drewN HW.out k)
              generalize w0.drewN k = w1 at *
              by_cases h6 : a.links = b.links
              · rw [show decide (a.links = b.links) = true from decide_eq_true h6]
                have a3 := (body_facts X1.out).2.2.2.1
                have b3 := (body_facts X2.out).2.2.2.1
                go_wp2_with fail
                clear a3 b3
                refine (HR.out w1 HW.out).mono ?_
                rintro e w2 ⟨rfl, k, rfl⟩
                replace X1 := Lib.hid (show Blk (w1.drewN k) w.heap.size 30 a.C from X1.out)
                replace X2 := Lib.hid (show Blk (w1.drewN k) (w.heap.size + 1) 30 b.C from X2.out)
                replace HW := Lib.hid (below_drewN HW.out k)
                generalize w1.drewN k = w2 at *
                by_cases h7 : a.routers = b.routers
                · rw [show decide (a.routers = b.routers) = true from decide_eq_true h7]
                  have a8 := (body_facts X1.out).2.2.2.2.2.2.2.2
                  have b8 := (body_facts X2.out).2.2.2.2.2.2.2.2
                  go_wp2_with fail
                  clear a8 b8
                  refine (HD.out w2 HW.out).mono ?_
                  rintro e w3 ⟨rfl, k, rfl⟩
                  have hz : eqB a b = decide (a.data = b.data) := by unfold eqB; simp [H0.out, H1.out, H2.out, H3.out, H4.out, H5.out, h6, h7]
                  generalize decide (a.data = b.data) = dd at *
                  go_wp2_with fail
                  go_ret
                  exact ⟨by rw [hz]; try rfl, below_drewN HW.out k⟩
                · rw [show decide (a.routers = b.routers) = false from decide_eq_false h7]
                  have hz : eqB a b = false := by unfold eqB; simp [h7]
                  go_wp2_with fail
                  go_ret
                  exact ⟨by rw [hz]; try rfl, HW.out⟩
              · rw [show decide (a.links = b.links) = false from decide_eq_false h6]
                have hz : eqB a b = false := by unfold eqB; simp [h6]
                go_wp2_with fail
                go_ret
                exact ⟨by rw [hz]; try rfl, HW.out⟩
            · have e5 : (a.tag == b.tag) = false := by simp [h5]
              have hz : eqB a b = false := by unfold eqB; simp [h5]
              clear h5
              go_enter Try.func12, Try.ntmps12
              go_wp2_with fail
              go_ret
              exact ⟨by rw [hz]; try rfl, HW.out⟩
          · have e4 : (a.fwd == b.fwd) = false := by simp [h4]
            have hz : eqB a b = false := by unfold eqB; simp [h4]
            clear h4
            go_enter Try.func12, Try.ntmps12
            go_wp2_with fail
            go_ret
            exact ⟨by rw [hz]; try rfl, HW.out⟩
        · have e3 : (a.t2 == b.t2) = false := by simp [h3]
          have hz : eqB a b = false := by unfold eqB; simp [h3]
          clear h3
          go_enter Try.func12, Try.ntmps12
          go_wp2_with fail
          go_ret
          exact ⟨by rw [hz]; try rfl, HW.out⟩
      · have e2 : (a.metric == b.metric) = false := by simp [h2]
        have hz : eqB a b = false := by unfold eqB; simp [h2]
        clear h2
        go_enter Try.func12, Try.ntmps12
        go_wp2_with fail
        go_ret
        exact ⟨by rw [hz]; try rfl, HW.out⟩
    · have e1 : (a.mask == b.mask) = false := by simp [h1]
      have hz : eqB a b = false := by unfold eqB; simp [h1]
      clear h1
      go_enter Try.func12, Try.ntmps12
      go_wp2_with fail
      go_ret
      exact ⟨by rw [hz]; try rfl, HW.out⟩
  · have e0 : (a.flags == b.flags) = false := by simp [h0]
    have hz : eqB a b = false := by unfold eqB; simp [h0]
    clear h0
    go_enter Try.func12, Try.ntmps12
    go_wp2_with fail
    go_ret
    exact ⟨by rw [hz]; try rfl, HW.out⟩
end Go.Proofs.Ytljedcfpbdompaa
namespace Go.Proofs.Ytljedcfpbdompaa
set_option linter.unusedVariables false
open Go.RowKit Go.ChangeShapes Go.WideShapes

theorem hd_fields : (Try.prog.fieldsOf 25).toList = [{ name := "Age", type := 22, offset := 0, embedded := false, tag := "", pkgPath := "", byteOffset := 0 }, { name := "Opts", type := 5, offset := 1, embedded := false, tag := "", pkgPath := "", byteOffset := 2 }, { name := "Type", type := 5, offset := 2, embedded := false, tag := "", pkgPath := "", byteOffset := 3 }, { name := "ID", type := 23, offset := 3, embedded := false, tag := "", pkgPath := "", byteOffset := 4 }, { name := "Adv", type := 23, offset := 4, embedded := false, tag := "", pkgPath := "", byteOffset := 8 }, { name := "Seq", type := 21, offset := 5, embedded := false, tag := "", pkgPath := "", byteOffset := 12 }, { name := "Sum", type := 22, offset := 6, embedded := false, tag := "", pkgPath := "", byteOffset := 16 }, { name := "Len", type := 22, offset := 7, embedded := false, tag := "", pkgPath := "", byteOffset := 18 }] := by kernel_rfl
def eqHd (a b : Hd) : Bool := decide (a.age = b.age) && decide (a.opts = b.opts) && decide (a.typ = b.typ) && decide (a.id = b.id) && decide (a.adv = b.adv) && decide (a.seq = b.seq) && decide (a.sum = b.sum) && decide (a.len = b.len)
theorem eqHd_iff (a b : Hd) : eqHd a b = true ↔ a = b := by
  obtain ⟨a1, a2, a3, a4, a5, a6, a7, a8⟩ := a
  obtain ⟨b1, b2, b3, b4, b5, b6, b7, b8⟩ := b
  unfold eqHd
  simp [and_assoc]
theorem hd_eq (a b : Hd) (w : World) : (Op.equalIn 10000 25 (.agg #[.int .u16 a.age, .int .u8 a.opts, .int .u8 a.typ, .int .u32 a.id, .int .u32 a.adv, .int .i32 a.seq, .int .u16 a.sum, .int .u16 a.len]) (.agg #[.int .u16 b.age, .int .u8 b.opts, .int .u8 b.typ, .int .u32 b.id, .int .u32 b.adv, .int .i32 b.seq, .int .u16 b.sum, .int .u16 b.len])).run Try.prog w = .ok (eqHd a b) w := by
  obtain ⟨a1, a2, a3, a4, a5, a6, a7, a8⟩ := a
  obtain ⟨b1, b2, b3, b4, b5, b6, b7, b8⟩ := b
  rw [show (10000 : Nat) = 9999 + 1 from rfl, run_equalIn_agg w 9999 25 _ _ (by kernel_rfl) (by kernel_rfl), hd_fields]
  unfold eqHd
  go_simp
  by_cases h1 : a1 = b1
  · by_cases h2 : a2 = b2
    · by_cases h3 : a3 = b3
      · by_cases h4 : a4 = b4
        · by_cases h5 : a5 = b5
          · by_cases h6 : a6 = b6
            · by_cases h7 : a7 = b7 <;> by_cases h8 : a8 = b8 <;> simp [h1, h2, h3, h4, h5, h6, h7, h8]
            · simp [h1, h2, h3, h4, h5, h6]
          · simp [h1, h2, h3, h4, h5]
        · simp [h1, h2, h3, h4]
      · simp [h1, h2, h3]
    · simp [h1, h2]
  · simp [h1]
def eqS (s t : SE) : Bool := eqHd s.h t.h && decide (s.B = t.B)
set_option maxRecDepth 100000 in
set_option maxHeartbeats 4000000 in
theorem eqState_any (s t : SE) (w : World) (hs : s.rd w) (ht : t.rd w) : Calls Try.prog 14 #[s.v, t.v] w fun e w' => e = .returned (.bool (eqS s t)) ∧ Below w.heap.size w w' := by
  obtain ⟨h, A, n, c, X⟩ := s
  obtain ⟨k, A2, n2, c2, Y⟩ := t
  have X1 : Hid (Blk ((w.alloc (.cells (stC h A n c) 34)).alloc (.cells (stC k A2 n2 c2) 34)) w.heap.size 34 (stC h A n c)) := Lib.hid ((Blk.new _ _ _).alloc _)
  have X2 : Hid (Blk ((w.alloc (.cells (stC h A n c) 34)).alloc (.cells (stC k A2 n2 c2) 34)) (w.heap.size + 1) 34 (stC k A2 n2 c2)) := new_at _ _ _
  have HW : Hid (Below w.heap.size w ((w.alloc (.cells (stC h A n c) 34)).alloc (.cells (stC k A2 n2 c2) 34))) := below_two _ _ _
  have HD := Lib.hid (fun (W : World) (hW : Below w.heap.size w W) => eqBytes_any A A2 n c n2 c2 X Y W _ _ (hs.body.later hW) (ht.body.later hW) (by have := hs.len; simp only at this; omega) (by have := ht.len; simp only at this; omega))
  clear hs ht
  obtain ⟨a0, a1, a2, a3, a4, a5, a6, a7, a8⟩ := stC_facts X1.out
  obtain ⟨b0, b1, b2, b3, b4, b5, b6, b7, b8⟩ := stC_facts X2.out
  show Calls Try.prog 14 #[stV h A n c, stV k A2 n2 c2] w _
  have hz : eqS ⟨h, A, n, c, X⟩ ⟨k, A2, n2, c2, Y⟩ = (eqHd h k && decide (X = Y)) := rfl
  generalize decide (X = Y) = dd at *
  obtain ⟨dh, hdh⟩ : ∃ dh, eqHd h k = dh := ⟨_, rfl⟩
  have hq : ∀ W : World, (Op.equalIn 10000 25 (.agg #[.int .u16 h.age, .int .u8 h.opts, .int .u8 h.typ, .int .u32 h.id, .int .u32 h.adv, .int .i32 h.seq, .int .u16 h.sum, .int .u16 h.len]) (.agg #[.int .u16 k.age, .int .u8 k.opts, .int .u8 k.typ, .int .u32 k.id, .int .u32 k.adv, .int .i32 k.seq, .int .u16 k.sum, .int .u16 k.len])).run Try.prog W = .ok dh W := fun W => by rw [hd_eq, hdh]
  rw [hdh] at hz
  clear hdh
  cases dh
  · go_enter Try.func14, Try.ntmps14
    unfold stC at *
    go_wp2_with fail
    go_ret
    exact ⟨by rw [hz]; try rfl, HW.out⟩
  · go_enter Try.func14, Try.ntmps14
    unfold stC at *
    go_wp2_with fail
    refine (HD.out _ HW.out).mono ?_
    rintro e w1 ⟨rfl, q, rfl⟩
    go_wp2_with fail
    go_ret
    exact ⟨by rw [hz]; try rfl, below_drewN HW.out q⟩
end Go.Proofs.Ytljedcfpbdompaa
namespace Go.Proofs.Ytljedcfpbdompaa
set_option linter.unusedVariables false
open Go.RowKit Go.ChangeShapes Go.WideShapes

theorem read_form (t : Int) (h : Kn t) (w0 w : World) (g : Nat) (q : Rq) (xs : List Int) (hr : RR w0 w g q ⟨xs, 0, 0⟩) (hn : xs.length ≤ 1073741824) :
    Calls Try.prog (rF t) #[.pointer (some ⟨g, 0, none⟩)] w fun e w' => RdP w0 w w' g q t xs e := by
  rcases h with rfl | rfl | rfl | rfl | rfl | rfl | rfl | rfl | rfl
  · exact readRouter_any w0 w g q xs hr hn
  · exact readNetwork_any w0 w g q xs hr hn
  · exact readSummary_any 3 (.inl rfl) w0 w g q xs hr
  · exact readSummary_any 4 (.inr rfl) w0 w g q xs hr
  · exact readOuter_any 5 (.inl rfl) w0 w g q xs hr
  · exact readOuter_any 7 (.inr rfl) w0 w g q xs hr
  · exact readOpaque_any 9 (.inl rfl) w0 w g q xs hr hn
  · exact readOpaque_any 10 (.inr (.inl rfl)) w0 w g q xs hr hn
  · exact readOpaque_any 11 (.inr (.inr rfl)) w0 w g q xs hr hn
/-- Whether bytes are the bytes of a body that may be. -/
def goodB (t : Int) (xs : List Int) : Prop := fitB t xs ∧ ∃ b : BA, Says t xs b ∧ b.links.length = b.ln ∧ b.routers.length = b.rn ∧ b.data.length = b.dn ∧ mayB t b = true ∧ bdB t b = xs
/-- What bytes say, they say of one body alone. -/
theorem says_same {t : Int} {xs : List Int} {a b : BA} (ha : Says t xs a) (hb : Says t xs b) : SameB a b :=
  ⟨hb.flags.trans ha.flags.symm, hb.links.trans ha.links.symm, hb.mask.trans ha.mask.symm, hb.routers.trans ha.routers.symm, hb.metric.trans ha.metric.symm, hb.t2.trans ha.t2.symm, hb.fwd.trans ha.fwd.symm, hb.tag.trans ha.tag.symm, hb.data.trans ha.data.symm⟩
theorem bdB_same {t : Int} {a b : BA} (h : SameB a b) : bdB t b = bdB t a := by
  unfold bdB
  rw [h.flags, h.links, h.mask, h.routers, h.metric, h.t2, h.fwd, h.tag, h.data]
theorem mayB_same {t : Int} {a b : BA} (h : SameB a b) (h1 : a.ln = b.ln) (h2 : a.rn = b.rn) (h3 : a.dn = b.dn) : mayB t b = mayB t a := by
  unfold mayB aloneB restB lksB
  rw [h.flags, h.links, h.mask, h.metric, h.t2, h.fwd, h.tag, h1, h2, h3]
theorem be_numB1 {x : Int} (h0 : 0 ≤ x) (h1 : x < 256) : be (numB x 1) = x := by
  simp [numB, four, be]
  omega
theorem be_numB2 {x : Int} (h0 : 0 ≤ x) (h1 : x < 65536) : be (numB x 2) = x := by
  simp [numB, four, be]
  omega
theorem be_numB3 {x : Int} (h0 : 0 ≤ x) (h1 : x < 16777216) : be (numB x 3) = x := by
  simp [numB, four, be]
  omega
theorem be_numB4 {x : Int} (h0 : 0 ≤ x) (h1 : x < 4294967296) : be (numB x 4) = x := by
  simp [numB, four, be]
  omega
end Go.Proofs.Ytljedcfpbdompaa
