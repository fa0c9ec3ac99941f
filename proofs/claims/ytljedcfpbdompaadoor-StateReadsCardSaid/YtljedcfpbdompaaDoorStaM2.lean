/-
  Equality of rows of bytes and words.
  Copies of words and links; links compared.
  Rows of links compared.
  CopyBody. Printed by gen_sta21.py.
  EqBody.
  EqState.
  Decode.
-/
import Derived.Test.YtljedcfpbdompaaDoorStaM1
namespace Go.Proofs.YtljedcfpbdompaaDoor
set_option linter.unusedVariables false
open Go.RowKit Go.ChangeShapes Go.WideShapes

theorem u32s_nth (xs : List Int) (k : Nat) : (u32s xs)[k]? = xs[k]?.map (Value.int .u32) := by
  induction xs generalizing k with
  | nil => simp [u32s]
  | cons x xs ih =>
    rw [show u32s (x :: xs) = .int .u32 x :: u32s xs from rfl]
    cases k with
    | zero => simp
    | succ k => simp [ih]
theorem Reads.u32len {w : World} {B n : Nat} {A : Option Addr} {xs : List Int} (h : Reads w B 1 A n (u32s xs)) : xs.length = n := by
  have := h.1
  rw [u32s_len] at this
  omega
theorem Reads.u32at {w : World} {B n k : Nat} {A : Option Addr} {zs : List Int} (h : Reads w B 1 A n (u32s zs)) (hk : k < n) :
    ∃ ad x, A = some ad ∧ ad.block < B ∧ Hid (zs[k]? = some x) ∧ w.cell? (ad.add k) = some (.int .u32 x) := by
  obtain ⟨ad, u, e, hb, hx, hc⟩ := h.at_ hk
  have hx2 := hx
  rw [u32s_nth] at hx2
  obtain ⟨x, hx3, rfl⟩ := Option.map_eq_some_iff.mp hx2
  exact ⟨ad, x, e, hb, hx3, hc⟩
set_option maxHeartbeats 400000 in
theorem sliceEqual_any (A A' : Option Addr) (n c n' c' : Nat) (xs ys : List Int) (w : World) (B B' : Nat)
   (hx : Reads w B 1 A n (u8s xs)) (hy : Reads w B' 1 A' n' (u8s ys)) (hn : n ≤ 9223372036854775807) (hn' : n' ≤ 9223372036854775807) :
    Calls Tryd.prog 50 #[.slice A n c, .slice A' n' c'] w fun e w' => e = .returned (.bool (decide (xs = ys))) ∧ ∃ k, w' = w.drewN k := by
  have hlx := hx.u8len
  have hly := hy.u8len
  by_cases hl : n = n'
  · obtain rfl := hl
    have Hlx := Lib.hid hlx
    have Hly := Lib.hid hly
    clear hlx hly
    go_enter Tryd.func50, Tryd.ntmps50
    go_wp2
    go_loopw [13] (fun i wr => ∃ k : Nat, i = .int .i64 k ∧ k ≤ n ∧ Hid (xs.take k = ys.take k) ∧ ∃ d, wr = w.drewN d) (fun i _ => n - (intOf i).toNat)
    case atStart => exact ⟨0, rfl, by omega, rfl, 0, rfl⟩
    case round =>
      obtain ⟨k, rfl, hk, he, d, rfl⟩ := hrel
      by_cases hlt : k < n
      · obtain ⟨a, x, rfl, _, hx1, h1⟩ := hx.u8at hlt
        obtain ⟨a', y, rfl, _, hy1, h2⟩ := hy.u8at hlt
        by_cases hxy : x = y
        · have hb : (x != y) = false := by simp [hxy]
          have Hxy := Lib.hid hxy
          clear hxy
          go_wp2
          go_quiet (fail)
          go_wp2
          go_roundw
          case rel => exact ⟨k + 1, by go_num, by omega, take_snoc2 hx1 hy1 Hxy.out he, _, rfl⟩
          case measure => simp [intOf]; omega
        · have hb : (x != y) = true := by simp [hxy]
          have hne := u8s_nth_ne hx1 hy1 hxy
          clear hxy
          go_wp2
          go_quiet (fail)
          go_wp2
          go_ret
          exact ⟨by simp [hne], _, World.drewN_drewN ..⟩
      · obtain rfl : n = k := by omega
        have heq : xs = ys := by have := he.out; rwa [List.take_of_length_le (by rw [Hlx.out]; omega), List.take_of_length_le (by rw [Hly.out]; omega)] at this
        clear Hlx Hly he
        go_wp2
        go_ret
        exact ⟨by simp [heq], _, rfl⟩
  · have hb : ((n : Int) != (n' : Int)) = true := by simp; omega
    have hne : xs ≠ ys := by rintro rfl; omega
    clear hlx hly
    go_enter Tryd.func50, Tryd.ntmps50
    go_wp2
    go_ret
    exact ⟨by simp [hne], 0, rfl⟩

end Go.Proofs.YtljedcfpbdompaaDoor
namespace Go.Proofs.YtljedcfpbdompaaDoor
set_option linter.unusedVariables false
open Go.RowKit Go.ChangeShapes Go.WideShapes

theorem u32s_one {xs : List Int} : ∀ u ∈ u32s xs, u.oneCell' = true := by
  intro u hu
  obtain ⟨x, _, hx⟩ := List.mem_flatMap.mp hu
  simp only [List.mem_singleton] at hx
  subst hx
  rfl
theorem lks_one {L : List Lk} : ∀ u ∈ L.flatMap Lk.cells, u.oneCell' = true := by
  intro u hu
  obtain ⟨x, _, hx⟩ := List.mem_flatMap.mp hu
  exact lk_one x u hx
theorem lk_fields : (Tryd.prog.fieldsOf 111).toList = [{ name := "ID", type := 26, offset := 0, embedded := false, tag := "", pkgPath := "", byteOffset := 0 }, { name := "Data", type := 26, offset := 1, embedded := false, tag := "", pkgPath := "", byteOffset := 4 }, { name := "Type", type := 5, offset := 2, embedded := false, tag := "", pkgPath := "", byteOffset := 8 }, { name := "Cost", type := 25, offset := 3, embedded := false, tag := "", pkgPath := "", byteOffset := 10 }] := by kernel_rfl
instance : DecidableEq Lk := fun a b => by
  obtain ⟨a1, a2, a3, a4⟩ := a
  obtain ⟨b1, b2, b3, b4⟩ := b
  exact decidable_of_iff (a1 = b1 ∧ a2 = b2 ∧ a3 = b3 ∧ a4 = b4) (by simp)
theorem lk_eq (a b : Lk) (w : World) : (Op.equalIn 10000 111 (.agg #[.int .u32 a.id, .int .u32 a.data, .int .u8 a.typ, .int .u16 a.cost]) (.agg #[.int .u32 b.id, .int .u32 b.data, .int .u8 b.typ, .int .u16 b.cost])).run Tryd.prog w = .ok (decide (a = b)) w := by
  obtain ⟨a1, a2, a3, a4⟩ := a
  obtain ⟨b1, b2, b3, b4⟩ := b
  rw [show (10000 : Nat) = 9999 + 1 from rfl, run_equalIn_agg w 9999 111 _ _ (by kernel_rfl) (by kernel_rfl), lk_fields]
  go_simp
  by_cases h1 : a1 = b1 <;> by_cases h2 : a2 = b2 <;> by_cases h3 : a3 = b3 <;> by_cases h4 : a4 = b4 <;> simp [h1, h2, h3, h4]
theorem lk_neq (a b : Lk) (W : World) : (binOp .neq 111 (.agg #[.int .u32 a.id, .int .u32 a.data, .int .u8 a.typ, .int .u16 a.cost]) (.agg #[.int .u32 b.id, .int .u32 b.data, .int .u8 b.typ, .int .u16 b.cost])).run Tryd.prog W = .ok (.bool (!decide (a = b))) W := by
  rw [run_neq_struct, lk_eq]
  simp
theorem lk_guard (x y : Operand) (a b : Lk) (W : World) : (eqGuard .neq 111 x y (.agg #[.int .u32 a.id, .int .u32 a.data, .int .u8 a.typ, .int .u16 a.cost]) (.agg #[.int .u32 b.id, .int .u32 b.data, .int .u8 b.typ, .int .u16 b.cost])).run Tryd.prog W = .ok () W :=
  run_eqGuard_agg _ _ _ _ _ _ _ Tryd.eqGuardType111
end Go.Proofs.YtljedcfpbdompaaDoor
namespace Go.Proofs.YtljedcfpbdompaaDoor
set_option linter.unusedVariables false
open Go.RowKit Go.ChangeShapes Go.WideShapes

theorem nth_ne {α : Type} {xs ys : List α} {k : Nat} {x y : α} (h1 : Hid (xs[k]? = some x)) (h2 : Hid (ys[k]? = some y)) (h : x ≠ y) : xs ≠ ys := by
  rintro rfl
  have a := h1.out
  have b := h2.out
  rw [a] at b
  exact h (by injection b)
theorem take_snoc3 {α : Type} {xs ys : List α} {k : Nat} {x y : α} (h1 : Hid (xs[k]? = some x)) (h2 : Hid (ys[k]? = some y)) (h : x = y) (he : Hid (xs.take k = ys.take k)) : Hid (xs.take (k+1) = ys.take (k+1)) := by
  subst h
  have e : xs.take (k+1) = ys.take (k+1) := by rw [List.take_add_one, List.take_add_one, he.out, h1.out, h2.out]
  exact e
end Go.Proofs.YtljedcfpbdompaaDoor
namespace Go.Proofs.YtljedcfpbdompaaDoor
set_option linter.unusedVariables false
open Go.RowKit Go.ChangeShapes Go.WideShapes

/-- Two bodies that say the same. -/
structure SameB (b b' : BA) : Prop where
  flags : b'.flags = b.flags
  links : b'.links = b.links
  mask : b'.mask = b.mask
  routers : b'.routers = b.routers
  metric : b'.metric = b.metric
  t2 : b'.t2 = b.t2
  fwd : b'.fwd = b.fwd
  tag : b'.tag = b.tag
  data : b'.data = b.data
end Go.Proofs.YtljedcfpbdompaaDoor
namespace Go.Proofs.YtljedcfpbdompaaDoor
set_option linter.unusedVariables false
open Go.RowKit Go.ChangeShapes Go.WideShapes

def eqB (a b : BA) : Bool := decide (a.flags = b.flags) && decide (a.mask = b.mask) && decide (a.metric = b.metric) && decide (a.t2 = b.t2) && decide (a.fwd = b.fwd) && decide (a.tag = b.tag) && decide (a.links = b.links) && decide (a.routers = b.routers) && decide (a.data = b.data)
end Go.Proofs.YtljedcfpbdompaaDoor
namespace Go.Proofs.YtljedcfpbdompaaDoor
set_option linter.unusedVariables false
open Go.RowKit Go.ChangeShapes Go.WideShapes

theorem hd_fields : (Tryd.prog.fieldsOf 28).toList = [{ name := "Age", type := 25, offset := 0, embedded := false, tag := "", pkgPath := "", byteOffset := 0 }, { name := "Opts", type := 5, offset := 1, embedded := false, tag := "", pkgPath := "", byteOffset := 2 }, { name := "Type", type := 5, offset := 2, embedded := false, tag := "", pkgPath := "", byteOffset := 3 }, { name := "ID", type := 26, offset := 3, embedded := false, tag := "", pkgPath := "", byteOffset := 4 }, { name := "Adv", type := 26, offset := 4, embedded := false, tag := "", pkgPath := "", byteOffset := 8 }, { name := "Seq", type := 21, offset := 5, embedded := false, tag := "", pkgPath := "", byteOffset := 12 }, { name := "Sum", type := 25, offset := 6, embedded := false, tag := "", pkgPath := "", byteOffset := 16 }, { name := "Len", type := 25, offset := 7, embedded := false, tag := "", pkgPath := "", byteOffset := 18 }] := by kernel_rfl
def eqHd (a b : Hd) : Bool := decide (a.age = b.age) && decide (a.opts = b.opts) && decide (a.typ = b.typ) && decide (a.id = b.id) && decide (a.adv = b.adv) && decide (a.seq = b.seq) && decide (a.sum = b.sum) && decide (a.len = b.len)
theorem eqHd_iff (a b : Hd) : eqHd a b = true ↔ a = b := by
  obtain ⟨a1, a2, a3, a4, a5, a6, a7, a8⟩ := a
  obtain ⟨b1, b2, b3, b4, b5, b6, b7, b8⟩ := b
  unfold eqHd
  simp [and_assoc]
theorem hd_eq (a b : Hd) (w : World) : (Op.equalIn 10000 28 (.agg #[.int .u16 a.age, .int .u8 a.opts, .int .u8 a.typ, .int .u32 a.id, .int .u32 a.adv, .int .i32 a.seq, .int .u16 a.sum, .int .u16 a.len]) (.agg #[.int .u16 b.age, .int .u8 b.opts, .int .u8 b.typ, .int .u32 b.id, .int .u32 b.adv, .int .i32 b.seq, .int .u16 b.sum, .int .u16 b.len])).run Tryd.prog w = .ok (eqHd a b) w := by
  obtain ⟨a1, a2, a3, a4, a5, a6, a7, a8⟩ := a
  obtain ⟨b1, b2, b3, b4, b5, b6, b7, b8⟩ := b
  rw [show (10000 : Nat) = 9999 + 1 from rfl, run_equalIn_agg w 9999 28 _ _ (by kernel_rfl) (by kernel_rfl), hd_fields]
  unfold eqHd
  go_simp
  by_cases h1 : a1 = b1
  · by_cases h2 : a2 = b2
    · by_cases h3 : a3 = b3
      · by_cases h4 : a4 = b4
        · by_cases h5 : a5 = b5
          · by_cases h6 : a6 = b6
            · by_cases h7 : a7 = b7 <;> by_cases h8 : a8 = b8 <;> simp [h1, h2, h3, h4, h5, h6, h7, h8]
            · simp [h1, h2, h3, h4, h5, h6]
          · simp [h1, h2, h3, h4, h5]
        · simp [h1, h2, h3, h4]
      · simp [h1, h2, h3]
    · simp [h1, h2]
  · simp [h1]
def eqS (s t : SE) : Bool := eqHd s.h t.h && decide (s.B = t.B)
set_option maxRecDepth 100000 in
set_option maxHeartbeats 4000000 in
theorem eqState_any (s t : SE) (w : World) (hs : s.rd w) (ht : t.rd w) : Calls Tryd.prog 10 #[s.v, t.v] w fun e w' => e = .returned (.bool (eqS s t)) ∧ Below w.heap.size w w' := by
  obtain ⟨h, A, n, c, X⟩ := s
  obtain ⟨k, A2, n2, c2, Y⟩ := t
  have X1 : Hid (Blk ((w.alloc (.cells (stC h A n c) 33)).alloc (.cells (stC k A2 n2 c2) 33)) w.heap.size 33 (stC h A n c)) := Lib.hid ((Blk.new _ _ _).alloc _)
  have X2 : Hid (Blk ((w.alloc (.cells (stC h A n c) 33)).alloc (.cells (stC k A2 n2 c2) 33)) (w.heap.size + 1) 33 (stC k A2 n2 c2)) := new_at _ _ _
  have HW : Hid (Below w.heap.size w ((w.alloc (.cells (stC h A n c) 33)).alloc (.cells (stC k A2 n2 c2) 33))) := below_two _ _ _
  have HD := Lib.hid (fun (W : World) (hW : Below w.heap.size w W) => eqBytes_any A A2 n c n2 c2 X Y W _ _ (hs.body.later hW) (ht.body.later hW) (by have := hs.len; simp only at this; omega) (by have := ht.len; simp only at this; omega))
  clear hs ht
  obtain ⟨a0, a1, a2, a3, a4, a5, a6, a7, a8⟩ := stC_facts X1.out
  obtain ⟨b0, b1, b2, b3, b4, b5, b6, b7, b8⟩ := stC_facts X2.out
  show Calls Tryd.prog 10 #[stV h A n c, stV k A2 n2 c2] w _
  have hz : eqS ⟨h, A, n, c, X⟩ ⟨k, A2, n2, c2, Y⟩ = (eqHd h k && decide (X = Y)) := rfl
  generalize decide (X = Y) = dd at *
  obtain ⟨dh, hdh⟩ : ∃ dh, eqHd h k = dh := ⟨_, rfl⟩
  have hq : ∀ W : World, (Op.equalIn 10000 28 (.agg #[.int .u16 h.age, .int .u8 h.opts, .int .u8 h.typ, .int .u32 h.id, .int .u32 h.adv, .int .i32 h.seq, .int .u16 h.sum, .int .u16 h.len]) (.agg #[.int .u16 k.age, .int .u8 k.opts, .int .u8 k.typ, .int .u32 k.id, .int .u32 k.adv, .int .i32 k.seq, .int .u16 k.sum, .int .u16 k.len])).run Tryd.prog W = .ok dh W := fun W => by rw [hd_eq, hdh]
  rw [hdh] at hz
  clear hdh
  cases dh
  · go_enter Tryd.func10, Tryd.ntmps10
    unfold stC at *
    go_wp2_with fail
    go_ret
    exact ⟨by rw [hz]; try rfl, HW.out⟩
  · go_enter Tryd.func10, Tryd.ntmps10
    unfold stC at *
    go_wp2_with fail
    refine (HD.out _ HW.out).mono ?_
    rintro e w1 ⟨rfl, q, rfl⟩
    go_wp2_with fail
    go_ret
    exact ⟨by rw [hz]; try rfl, below_drewN HW.out q⟩
end Go.Proofs.YtljedcfpbdompaaDoor
namespace Go.Proofs.YtljedcfpbdompaaDoor
set_option linter.unusedVariables false
open Go.RowKit Go.ChangeShapes Go.WideShapes

theorem read_form (t : Int) (h : Kn t) (w0 w : World) (g : Nat) (q : Rq) (xs : List Int) (hr : RR w0 w g q ⟨xs, 0, 0⟩) (hn : xs.length ≤ 1073741824) :
    Calls Tryd.prog (rF t) #[.pointer (some ⟨g, 0, none⟩)] w fun e w' => RdP w0 w w' g q t xs e := by
  rcases h with rfl | rfl | rfl | rfl | rfl | rfl | rfl | rfl | rfl
  · exact readRouter_any w0 w g q xs hr hn
  · exact readNetwork_any w0 w g q xs hr hn
  · exact readSummary_any 3 (.inl rfl) w0 w g q xs hr
  · exact readSummary_any 4 (.inr rfl) w0 w g q xs hr
  · exact readOuter_any 5 (.inl rfl) w0 w g q xs hr
  · exact readOuter_any 7 (.inr rfl) w0 w g q xs hr
  · exact readOpaque_any 9 (.inl rfl) w0 w g q xs hr hn
  · exact readOpaque_any 10 (.inr (.inl rfl)) w0 w g q xs hr hn
  · exact readOpaque_any 11 (.inr (.inr rfl)) w0 w g q xs hr hn
/-- Whether bytes are the bytes of a body that may be. -/
def goodB (t : Int) (xs : List Int) : Prop := fitB t xs ∧ ∃ b : BA, Says t xs b ∧ b.links.length = b.ln ∧ b.routers.length = b.rn ∧ b.data.length = b.dn ∧ mayB t b = true ∧ bdB t b = xs
/-- What bytes say, they say of one body alone. -/
theorem says_same {t : Int} {xs : List Int} {a b : BA} (ha : Says t xs a) (hb : Says t xs b) : SameB a b :=
  ⟨hb.flags.trans ha.flags.symm, hb.links.trans ha.links.symm, hb.mask.trans ha.mask.symm, hb.routers.trans ha.routers.symm, hb.metric.trans ha.metric.symm, hb.t2.trans ha.t2.symm, hb.fwd.trans ha.fwd.symm, hb.tag.trans ha.tag.symm, hb.data.trans ha.data.symm⟩
theorem bdB_same {t : Int} {a b : BA} (h : SameB a b) : bdB t b = bdB t a := by
  unfold bdB
  rw [h.flags, h.links, h.mask, h.routers, h.metric, h.t2, h.fwd, h.tag, h.data]
theorem mayB_same {t : Int} {a b : BA} (h : SameB a b) (h1 : a.ln = b.ln) (h2 : a.rn = b.rn) (h3 : a.dn = b.dn) : mayB t b = mayB t a := by
  unfold mayB aloneB restB lksB
  rw [h.flags, h.links, h.mask, h.metric, h.t2, h.fwd, h.tag, h1, h2, h3]
theorem be_numB1 {x : Int} (h0 : 0 ≤ x) (h1 : x < 256) : be (numB x 1) = x := by
  simp [numB, four, be]
  omega
theorem be_numB2 {x : Int} (h0 : 0 ≤ x) (h1 : x < 65536) : be (numB x 2) = x := by
  simp [numB, four, be]
  omega
theorem be_numB3 {x : Int} (h0 : 0 ≤ x) (h1 : x < 16777216) : be (numB x 3) = x := by
  simp [numB, four, be]
  omega
theorem be_numB4 {x : Int} (h0 : 0 ≤ x) (h1 : x < 4294967296) : be (numB x 4) = x := by
  simp [numB, four, be]
  omega
end Go.Proofs.YtljedcfpbdompaaDoor
