/-
  What the walks of packets take out of chapter 06's texts: numbers read, lists of words, heads and states.
-/
import Derived.Test.YtbkejlalbjomkaaStP
import Derived.Test.YtbkejlalbjomkaaFlat
import Derived.ChangeArms
import Derived.WideShapes
import Derived.OpenShut
import Derived.SizedLaws
namespace Go.Proofs.Ytbkejlalbjomkaa
set_option linter.unusedVariables false
open Go.RowKit Go.ChangeShapes Go.WideShapes
set_option maxRecDepth 100000

def u32s (l : List Int) : List Value := l.flatMap fun x => [Value.int .u32 x]
/-- A number that was read. -/
structure NumR (s : Rd) (k : Nat) (v : Int) (s2 : Rd) : Prop where
  is : s.num k = (v, s2)
  lo : 0 ≤ v
  hi : v < 256 ^ k
  xs : s2.xs = s.xs
  cases : (s.e = 0 ∧ s.pos + k ≤ s.xs.length ∧ v = be ((s.xs.drop s.pos).take k) ∧ s2 = ⟨s.xs, s.pos + k, 0⟩) ∨ ((s.e ≠ 0 ∨ s.xs.length < s.pos + k) ∧ v = 0 ∧ s2.e ≠ 0)
theorem NumR.yes {s s2 : Rd} {k : Nat} {v : Int} (n : NumR s k v s2) (h : s2.e = 0) : s.e = 0 ∧ s.pos + k ≤ s.xs.length ∧ v = be ((s.xs.drop s.pos).take k) ∧ s2 = ⟨s.xs, s.pos + k, 0⟩ := by
  rcases n.cases with c | ⟨_, _, c⟩
  · exact c
  · exact absurd h c
theorem NumR.fit {s s2 : Rd} {k : Nat} {v : Int} (n : NumR s k v s2) (he : s.e = 0) (hl : s.pos + k ≤ s.xs.length) : v = be ((s.xs.drop s.pos).take k) ∧ s2 = ⟨s.xs, s.pos + k, 0⟩ := by
  rcases n.cases with ⟨_, _, c⟩ | ⟨c, _, _⟩
  · exact c
  · omega
theorem numR_of (s : Rd) (ho : Oct s.xs) {k : Nat} (h1 : 1 ≤ k) (h4 : k ≤ 4) : NumR s k (s.num k).1 (s.num k).2 := by
  have e1 : (if (k : Int) < 1 ∨ 4 < (k : Int) then (-1 : Int) else k) = k := by rw [if_neg (by omega)]
  have hp : (0 : Int) < 256 ^ k := by
    have h3 : k = 1 ∨ k = 2 ∨ k = 3 ∨ k = 4 := by omega
    rcases h3 with rfl | rfl | rfl | rfl <;> decide
  by_cases he : s.e = 0
  · by_cases hl : s.pos + k ≤ s.xs.length
    · obtain ⟨xs, p, e⟩ := s
      subst he
      have := num_at (xs := xs) (p := p) (k := k) hl h1 h4
      rw [this]
      have hb := be_at ho p k
      exact ⟨this, hb.1, hb.2, rfl, .inl ⟨rfl, hl, rfl, rfl⟩⟩
    · have hn : s.num k = (0, { s with e := 10 }) := by
        unfold Rd.num
        rw [e1]
        unfold Rd.next
        rw [if_pos he, if_neg (by omega), if_pos (by omega)]
        rfl
      rw [hn]
      exact ⟨hn, by simp, by simpa using hp, rfl, .inr ⟨.inr (by omega), rfl, by simp⟩⟩
  · have hn : s.num k = (0, s) := by
      unfold Rd.num
      rw [e1]
      unfold Rd.next
      rw [if_neg he]
      rfl
    rw [hn]
    exact ⟨hn, by simp, by simpa using hp, rfl, .inr ⟨.inl he, rfl, he⟩⟩
theorem rr_numx (w0 w : World) (g : Nat) (q : Rq) (s : Rd) (h : RR w0 w g q s) (k : Nat) (h1 : 1 ≤ k) (h4 : k ≤ 4) :
    Calls Try.prog 51 #[.pointer (some ⟨g, 0, none⟩), .int .i64 (k : Int)] w fun e w' => ∃ v s2, e = .returned (.int .u32 v) ∧ NumR s k v s2 ∧ RR w0 w' g q s2 ∧ Kept (fun i => i = g) w w' := by
  refine (rr_num w0 w g q s h k (by omega)).mono ?_
  rintro e w' ⟨rfl, h2, h3⟩
  exact ⟨_, _, rfl, numR_of s h.oct h1 h4, h2, h3⟩
theorem own_nil (W : World) (base : Nat) (t : TypeId) (k : Nat) : W.ownsRow base t k (.slice none 0 0) 0 [] := by simp [World.ownsRow]
theorem left_of (xs : List Int) (p : Nat) : (⟨xs, p, 0⟩ : Rd).left = (xs.length : Int) - p := rfl
set_option maxRecDepth 100000 in
set_option maxHeartbeats 4000000 in
theorem rr_bytes (w0 w : World) (g : Nat) (q : Rq) (xs : List Int) (h : RR w0 w g q ⟨xs, 0, 0⟩) (hn : xs.length ≤ 1073741824) :
    Calls Try.prog 52 #[.pointer (some ⟨g, 0, none⟩), .int .i64 (xs.length : Int)] w fun e w' => ∃ v, e = .returned v ∧ w'.ownsRow w.heap.size 5 1 v xs.length (u8s xs) ∧ RR w0 w' g q ⟨xs, xs.length, 0⟩ ∧ Kept (fun i => i = g) w w' := by
  have hnx : (⟨xs, 0, 0⟩ : Rd).next (xs.length : Int) = (some xs, ⟨xs, xs.length, 0⟩) := by
    unfold Rd.next
    rw [if_pos rfl, if_neg (by omega), if_neg (by simp)]
    simp
  have HN := next_any w g q.A q.n q.c ⟨xs, 0, 0⟩ xs.length h.rs (by omega) (by omega)
  have HN2 : Hid (Calls Try.prog 85 #[.pointer (some ⟨g, 0, none⟩), .int .i64 (xs.length : Int)] w fun e w' => ∃ A', e = .returned (.tuple #[.slice A' xs.length xs.length, .bool true]) ∧ Reads w' w'.heap.size 1 A' xs.length (u8s xs) ∧ RS w' g q.A q.n q.c ⟨xs, xs.length, 0⟩ ∧ Kept (fun i => i = g) w w') := by
    refine HN.mono ?_
    intro e w' hq
    unfold NextPost at hq
    rw [hnx] at hq
    obtain ⟨h1, h2, A', he, hr, _⟩ := hq
    simp only [Int.toNat_natCast] at he hr
    exact ⟨A', he, hr, h1, h2⟩
  have HR := Lib.hid h
  clear HN h
  go_enter Try.func52, Try.ntmps52
  go_wp2_with fail
  refine HN2.out.mono ?_
  rintro e w1 ⟨A', rfl, hr, hs, hk⟩
  have H1 := Lib.hid (And.intro hs hk)
  have HQ := Lib.hid hr
  clear hr hs hk
  go_wp2_with fail
  refine (clone_any A' xs.length xs.length xs w1 HQ.out (by omega)).mono ?_
  rintro e w2 ⟨v, rfl, ho, hb⟩
  have H2 := Lib.hid (And.intro ho hb)
  clear ho hb
  go_wp2_with fail
  go_ret
  have hk2 : Kept (fun i => i = g) w w2 := H1.out.2.trans (Kept.of_new H2.out.2 _) (fun _ _ e => e)
  exact ⟨v, rfl, own_mono H2.out.1 H1.out.2.size, ⟨H1.out.1.kept (Kept.of_new H2.out.2 (fun _ => False)) (fun h => h) (fun _ _ _ h => h), HR.out.oct, HR.out.g0, HR.out.b.trans (hk2.below (fun i e => e ▸ HR.out.g0) HR.out.b.size)⟩, hk2⟩
theorem el_u32 : El Try.prog 24 22 1 4 := El.mk' Try.underlying24 (z := .int .u32 0) (by kernel_rfl) rfl (by decide)
/-- How much a reader has left, told from memory. -/
def rdLeft (N : Nat) (W : World) (g : Nat) : Nat :=
  match W.cell? ⟨g, 1, none⟩, W.cell? ⟨g, 2, none⟩ with
  | some (.int _ p), some (.int _ e) => if e = 0 then 1 + (N - p.toNat) else 0
  | _, _ => 0
theorem rdLeft_eq {w0 W : World} {g : Nat} {q : Rq} {s : Rd} (h : RR w0 W g q s) (N : Nat) : rdLeft N W g = if s.e = 0 then 1 + (N - s.pos) else 0 := by
  have h1 := h.rs.blk.cell 1
  have h2 := h.rs.blk.cell 2
  simp at h1 h2
  unfold rdLeft
  rw [h1, h2]
  simp
theorem u32s_snoc (L : List Int) (x : Int) : u32s (L ++ [x]) = u32s L ++ [.int .u32 x] := by simp [u32s, List.flatMap_append]
theorem u32s_len (L : List Int) : (u32s L).length = L.length := by induction L with | nil => rfl | cons x L ih => (rw [show u32s (x :: L) = .int .u32 x :: u32s L from rfl]; simp [ih])
theorem own_shape_n {w : World} {base size n : Nat} {e : TypeId} {v : Value} {xs : List Value} (h : w.ownsRow base e size v n xs) : ∃ A c, v = .slice A n c ∧ n ≤ c ∧ c ≤ 9223372036854775807 ∧ Reads w w.heap.size size A n xs := by
  have hh := h
  rcases h.2 with ⟨rfl, rfl⟩ | ⟨g', cap, cur, rfl, _, hk, hc, hm, _⟩
  · exact ⟨none, 0, rfl, Nat.le_refl _, by omega, Reads.of_own hh⟩
  · exact ⟨some ⟨g', 0, none⟩, cap, rfl, hc, by unfold maxLen at hm; exact hm, Reads.of_own hh⟩
theorem u32s_nth (xs : List Int) (k : Nat) : (u32s xs)[k]? = xs[k]?.map (Value.int .u32) := by
  induction xs generalizing k with
  | nil => simp [u32s]
  | cons x xs ih =>
    rw [show u32s (x :: xs) = .int .u32 x :: u32s xs from rfl]
    cases k with
    | zero => simp
    | succ k => simp [ih]
theorem Reads.u32len {w : World} {B n : Nat} {A : Option Addr} {xs : List Int} (h : Reads w B 1 A n (u32s xs)) : xs.length = n := by
  have := h.1
  rw [u32s_len] at this
  omega
theorem Reads.u32at {w : World} {B n k : Nat} {A : Option Addr} {zs : List Int} (h : Reads w B 1 A n (u32s zs)) (hk : k < n) :
    ∃ ad x, A = some ad ∧ ad.block < B ∧ Hid (zs[k]? = some x) ∧ w.cell? (ad.add k) = some (.int .u32 x) := by
  obtain ⟨ad, u, e, hb, hx, hc⟩ := h.at_ hk
  have hx2 := hx
  rw [u32s_nth] at hx2
  obtain ⟨x, hx3, rfl⟩ := Option.map_eq_some_iff.mp hx2
  exact ⟨ad, x, e, hb, hx3, hc⟩
set_option maxHeartbeats 400000 in
theorem eqWords_any (A A' : Option Addr) (n c n' c' : Nat) (xs ys : List Int) (w : World) (B B' : Nat)
   (hx : Reads w B 1 A n (u32s xs)) (hy : Reads w B' 1 A' n' (u32s ys)) (hn : n ≤ 9223372036854775807) (hn' : n' ≤ 9223372036854775807) :
    Calls Try.prog 90 #[.slice A n c, .slice A' n' c'] w fun e w' => e = .returned (.bool (decide (xs = ys))) ∧ ∃ k, w' = w.drewN k := by
  have hlx := hx.u32len
  have hly := hy.u32len
  by_cases hl : n = n'
  · obtain rfl := hl
    have Hlx := Lib.hid hlx
    have Hly := Lib.hid hly
    clear hlx hly
    go_enter Try.func90, Try.ntmps90
    go_wp2
    go_loopw [5] (fun i wr => ∃ k : Nat, i = .int .i64 k ∧ k ≤ n ∧ Hid (xs.take k = ys.take k) ∧ ∃ d, wr = w.drewN d) (fun i _ => n - (intOf i).toNat)
    case atStart => exact ⟨0, rfl, by omega, rfl, 0, rfl⟩
    case round =>
      obtain ⟨k, rfl, hk, he, d, rfl⟩ := hrel
      by_cases hlt : k < n
      · obtain ⟨a, x, rfl, _, hx1, h1⟩ := hx.u32at hlt
        obtain ⟨a', y, rfl, _, hy1, h2⟩ := hy.u32at hlt
        by_cases hxy : x = y
        · have hb : (x != y) = false := by simp [hxy]
          have Hxy := Lib.hid hxy
          clear hxy
          go_wp2
          go_quiet (fail)
          go_wp2
          go_roundw
          case rel => exact ⟨k + 1, by go_num, by omega, take_snoc2 hx1 hy1 Hxy.out he, _, rfl⟩
          case measure => simp [intOf]; omega
        · have hb : (x != y) = true := by simp [hxy]
          have hne := u8s_nth_ne hx1 hy1 hxy
          clear hxy
          go_wp2
          go_quiet (fail)
          go_wp2
          go_ret
          exact ⟨by simp [hne], _, World.drewN_drewN ..⟩
      · obtain rfl : n = k := by omega
        have heq : xs = ys := by have := he.out; rwa [List.take_of_length_le (by rw [Hlx.out]; omega), List.take_of_length_le (by rw [Hly.out]; omega)] at this
        clear Hlx Hly he
        go_wp2
        go_ret
        exact ⟨by simp [heq], _, rfl⟩
  · have hb : ((n : Int) != (n' : Int)) = true := by simp; omega
    have hne : xs ≠ ys := by rintro rfl; omega
    clear hlx hly
    go_enter Try.func90, Try.ntmps90
    go_wp2
    go_ret
    exact ⟨by simp [hne], 0, rfl⟩

theorem u32s_one {xs : List Int} : ∀ u ∈ u32s xs, u.oneCell' = true := by
  intro u hu
  obtain ⟨x, _, hx⟩ := List.mem_flatMap.mp hu
  simp only [List.mem_singleton] at hx
  subst hx
  rfl
theorem copyWords_any (A : Option Addr) (n c : Nat) (xs : List Int) (w : World) (hx : Reads w w.heap.size 1 A n (u32s xs)) (hn : n ≤ 1099511627776) :
    Calls Try.prog 83 #[.slice A n c] w fun e w' => ∃ v, e = .returned v ∧ w'.ownsRow w.heap.size 22 1 v n (u32s xs) ∧ Below w.heap.size w w' := by
  have hlx := Lib.hid hx.u32len
  go_enter Try.func83, Try.ntmps83
  go_wp2_with (at_builtin; refine wpList_app el_u32 rfl _ _ rfl (World.ownsRow_nil _ w.heap.size _ _) rfl hx rfl u32s_one (by simp only [maxLen]; omega) (by omega) (Nat.le_refl _) ?_; intro v w1 hown hbel _ _)
  go_ret
  exact ⟨v, rfl, by simpa using hown, hbel⟩
theorem nth_ne {α : Type} {xs ys : List α} {k : Nat} {x y : α} (h1 : Hid (xs[k]? = some x)) (h2 : Hid (ys[k]? = some y)) (h : x ≠ y) : xs ≠ ys := by
  rintro rfl
  have a := h1.out
  have b := h2.out
  rw [a] at b
  exact h (by injection b)
theorem take_snoc3 {α : Type} {xs ys : List α} {k : Nat} {x y : α} (h1 : Hid (xs[k]? = some x)) (h2 : Hid (ys[k]? = some y)) (h : x = y) (he : Hid (xs.take k = ys.take k)) : Hid (xs.take (k+1) = ys.take (k+1)) := by
  subst h
  have e : xs.take (k+1) = ys.take (k+1) := by rw [List.take_add_one, List.take_add_one, he.out, h1.out, h2.out]
  exact e
theorem hd_fields : (Try.prog.fieldsOf 74).toList = [{ name := "Age", type := 23, offset := 0, embedded := false, tag := "", pkgPath := "", byteOffset := 0 }, { name := "Opts", type := 5, offset := 1, embedded := false, tag := "", pkgPath := "", byteOffset := 2 }, { name := "Type", type := 5, offset := 2, embedded := false, tag := "", pkgPath := "", byteOffset := 3 }, { name := "ID", type := 22, offset := 3, embedded := false, tag := "", pkgPath := "", byteOffset := 4 }, { name := "Adv", type := 22, offset := 4, embedded := false, tag := "", pkgPath := "", byteOffset := 8 }, { name := "Seq", type := 21, offset := 5, embedded := false, tag := "", pkgPath := "", byteOffset := 12 }, { name := "Sum", type := 23, offset := 6, embedded := false, tag := "", pkgPath := "", byteOffset := 16 }, { name := "Len", type := 23, offset := 7, embedded := false, tag := "", pkgPath := "", byteOffset := 18 }] := by kernel_rfl
def eqHd (a b : Hd) : Bool := decide (a.age = b.age) && decide (a.opts = b.opts) && decide (a.typ = b.typ) && decide (a.id = b.id) && decide (a.adv = b.adv) && decide (a.seq = b.seq) && decide (a.sum = b.sum) && decide (a.len = b.len)
theorem eqHd_iff (a b : Hd) : eqHd a b = true ↔ a = b := by
  obtain ⟨a1, a2, a3, a4, a5, a6, a7, a8⟩ := a
  obtain ⟨b1, b2, b3, b4, b5, b6, b7, b8⟩ := b
  unfold eqHd
  simp [and_assoc]
theorem hd_eq (a b : Hd) (w : World) : (Op.equalIn 10000 74 (.agg #[.int .u16 a.age, .int .u8 a.opts, .int .u8 a.typ, .int .u32 a.id, .int .u32 a.adv, .int .i32 a.seq, .int .u16 a.sum, .int .u16 a.len]) (.agg #[.int .u16 b.age, .int .u8 b.opts, .int .u8 b.typ, .int .u32 b.id, .int .u32 b.adv, .int .i32 b.seq, .int .u16 b.sum, .int .u16 b.len])).run Try.prog w = .ok (eqHd a b) w := by
  obtain ⟨a1, a2, a3, a4, a5, a6, a7, a8⟩ := a
  obtain ⟨b1, b2, b3, b4, b5, b6, b7, b8⟩ := b
  rw [show (10000 : Nat) = 9999 + 1 from rfl, run_equalIn_agg w 9999 74 _ _ (by kernel_rfl) (by kernel_rfl), hd_fields]
  unfold eqHd
  go_simp
  by_cases h1 : a1 = b1
  · by_cases h2 : a2 = b2
    · by_cases h3 : a3 = b3
      · by_cases h4 : a4 = b4
        · by_cases h5 : a5 = b5
          · by_cases h6 : a6 = b6
            · by_cases h7 : a7 = b7 <;> by_cases h8 : a8 = b8 <;> simp [h1, h2, h3, h4, h5, h6, h7, h8]
            · simp [h1, h2, h3, h4, h5, h6]
          · simp [h1, h2, h3, h4, h5]
        · simp [h1, h2, h3, h4]
      · simp [h1, h2, h3]
    · simp [h1, h2]
  · simp [h1]
def eqS (s t : SE) : Bool := eqHd s.h t.h && decide (s.B = t.B)
set_option maxRecDepth 100000 in
set_option maxHeartbeats 4000000 in
theorem eqState_any (s t : SE) (w : World) (hs : s.rd w) (ht : t.rd w) : Calls Try.prog 91 #[s.v, t.v] w fun e w' => e = .returned (.bool (eqS s t)) ∧ Below w.heap.size w w' := by
  obtain ⟨h, A, n, c, X⟩ := s
  obtain ⟨k, A2, n2, c2, Y⟩ := t
  have X1 : Hid (Blk ((w.alloc (.cells (stC h A n c) 76)).alloc (.cells (stC k A2 n2 c2) 76)) w.heap.size 76 (stC h A n c)) := Lib.hid ((Blk.new _ _ _).alloc _)
  have X2 : Hid (Blk ((w.alloc (.cells (stC h A n c) 76)).alloc (.cells (stC k A2 n2 c2) 76)) (w.heap.size + 1) 76 (stC k A2 n2 c2)) := new_at _ _ _
  have HW : Hid (Below w.heap.size w ((w.alloc (.cells (stC h A n c) 76)).alloc (.cells (stC k A2 n2 c2) 76))) := below_two _ _ _
  have HD := Lib.hid (fun (W : World) (hW : Below w.heap.size w W) => eqBytes_any A A2 n c n2 c2 X Y W _ _ (hs.body.later hW) (ht.body.later hW) (by have := hs.len; simp only at this; omega) (by have := ht.len; simp only at this; omega))
  clear hs ht
  obtain ⟨a0, a1, a2, a3, a4, a5, a6, a7, a8⟩ := stC_facts X1.out
  obtain ⟨b0, b1, b2, b3, b4, b5, b6, b7, b8⟩ := stC_facts X2.out
  show Calls Try.prog 91 #[stV h A n c, stV k A2 n2 c2] w _
  have hz : eqS ⟨h, A, n, c, X⟩ ⟨k, A2, n2, c2, Y⟩ = (eqHd h k && decide (X = Y)) := rfl
  generalize decide (X = Y) = dd at *
  obtain ⟨dh, hdh⟩ : ∃ dh, eqHd h k = dh := ⟨_, rfl⟩
  have hq : ∀ W : World, (Op.equalIn 10000 74 (.agg #[.int .u16 h.age, .int .u8 h.opts, .int .u8 h.typ, .int .u32 h.id, .int .u32 h.adv, .int .i32 h.seq, .int .u16 h.sum, .int .u16 h.len]) (.agg #[.int .u16 k.age, .int .u8 k.opts, .int .u8 k.typ, .int .u32 k.id, .int .u32 k.adv, .int .i32 k.seq, .int .u16 k.sum, .int .u16 k.len])).run Try.prog W = .ok dh W := fun W => by rw [hd_eq, hdh]
  rw [hdh] at hz
  clear hdh
  cases dh
  · go_enter Try.func91, Try.ntmps91
    unfold stC at *
    go_wp2_with fail
    go_ret
    exact ⟨by rw [hz]; try rfl, HW.out⟩
  · go_enter Try.func91, Try.ntmps91
    unfold stC at *
    go_wp2_with fail
    refine (HD.out _ HW.out).mono ?_
    rintro e w1 ⟨rfl, q, rfl⟩
    go_wp2_with fail
    go_ret
    exact ⟨by rw [hz]; try rfl, below_drewN HW.out q⟩
theorem be_numB1 {x : Int} (h0 : 0 ≤ x) (h1 : x < 256) : be (numB x 1) = x := by
  simp [numB, four, be]
  omega
theorem be_numB2 {x : Int} (h0 : 0 ≤ x) (h1 : x < 65536) : be (numB x 2) = x := by
  simp [numB, four, be]
  omega
theorem be_numB3 {x : Int} (h0 : 0 ≤ x) (h1 : x < 16777216) : be (numB x 3) = x := by
  simp [numB, four, be]
  omega
theorem be_numB4 {x : Int} (h0 : 0 ≤ x) (h1 : x < 4294967296) : be (numB x 4) = x := by
  simp [numB, four, be]
  omega
set_option maxRecDepth 100000 in
theorem head_of {H : Type} {enc : TypeId × Value → H} {w : World} {held : Bool} (fuel : Nat) (cs : List Value) (x : DataW H × List MemPlace) (h : DataW.trod enc Try.prog w 0 (fun _ => true) held fuel 74 cs = some x) :
    ∃ h : Hd, cs = h.cells ∧ h.ok ∧ ((∀ N ∈ x.1.weights Try.prog 74, N ≤ reachBytes) → True) := by
  obtain ⟨xs, n, _, hxw, hl, hxl, hf⟩ := DataW.trod_struct Try.underlying74 h
  have hC : Try.prog.cellsOf 74 = 8 := by kernel_rfl
  rw [hC] at hl
  match cs, hl, xs, hxl with
  | [c0, c1, c2, c3, c4, c5, c6, c7], _, [y0, y1, y2, y3, y4, y5, y6, y7], _ =>
    have g0 : DataW.trod enc Try.prog w 0 (fun _ => true) held n 23 (([c0, c1, c2, c3, c4, c5, c6, c7].drop 0).take (Try.prog.cellsOf 23)) = some y0 := hf 0 _ rfl
    rw [show Try.prog.cellsOf 23 = 1 from by kernel_rfl] at g0
    replace g0 : DataW.trod enc Try.prog w 0 (fun _ => true) held n 23 [c0] = some y0 := g0
    have g1 : DataW.trod enc Try.prog w 0 (fun _ => true) held n 5 (([c0, c1, c2, c3, c4, c5, c6, c7].drop 1).take (Try.prog.cellsOf 5)) = some y1 := hf 1 _ rfl
    rw [show Try.prog.cellsOf 5 = 1 from by kernel_rfl] at g1
    replace g1 : DataW.trod enc Try.prog w 0 (fun _ => true) held n 5 [c1] = some y1 := g1
    have g2 : DataW.trod enc Try.prog w 0 (fun _ => true) held n 5 (([c0, c1, c2, c3, c4, c5, c6, c7].drop 2).take (Try.prog.cellsOf 5)) = some y2 := hf 2 _ rfl
    rw [show Try.prog.cellsOf 5 = 1 from by kernel_rfl] at g2
    replace g2 : DataW.trod enc Try.prog w 0 (fun _ => true) held n 5 [c2] = some y2 := g2
    have g3 : DataW.trod enc Try.prog w 0 (fun _ => true) held n 22 (([c0, c1, c2, c3, c4, c5, c6, c7].drop 3).take (Try.prog.cellsOf 22)) = some y3 := hf 3 _ rfl
    rw [show Try.prog.cellsOf 22 = 1 from by kernel_rfl] at g3
    replace g3 : DataW.trod enc Try.prog w 0 (fun _ => true) held n 22 [c3] = some y3 := g3
    have g4 : DataW.trod enc Try.prog w 0 (fun _ => true) held n 22 (([c0, c1, c2, c3, c4, c5, c6, c7].drop 4).take (Try.prog.cellsOf 22)) = some y4 := hf 4 _ rfl
    rw [show Try.prog.cellsOf 22 = 1 from by kernel_rfl] at g4
    replace g4 : DataW.trod enc Try.prog w 0 (fun _ => true) held n 22 [c4] = some y4 := g4
    have g5 : DataW.trod enc Try.prog w 0 (fun _ => true) held n 21 (([c0, c1, c2, c3, c4, c5, c6, c7].drop 5).take (Try.prog.cellsOf 21)) = some y5 := hf 5 _ rfl
    rw [show Try.prog.cellsOf 21 = 1 from by kernel_rfl] at g5
    replace g5 : DataW.trod enc Try.prog w 0 (fun _ => true) held n 21 [c5] = some y5 := g5
    have g6 : DataW.trod enc Try.prog w 0 (fun _ => true) held n 23 (([c0, c1, c2, c3, c4, c5, c6, c7].drop 6).take (Try.prog.cellsOf 23)) = some y6 := hf 6 _ rfl
    rw [show Try.prog.cellsOf 23 = 1 from by kernel_rfl] at g6
    replace g6 : DataW.trod enc Try.prog w 0 (fun _ => true) held n 23 [c6] = some y6 := g6
    have g7 : DataW.trod enc Try.prog w 0 (fun _ => true) held n 23 (([c0, c1, c2, c3, c4, c5, c6, c7].drop 7).take (Try.prog.cellsOf 23)) = some y7 := hf 7 _ rfl
    rw [show Try.prog.cellsOf 23 = 1 from by kernel_rfl] at g7
    replace g7 : DataW.trod enc Try.prog w 0 (fun _ => true) held n 23 [c7] = some y7 := g7
    obtain ⟨a0, e0, _, w0⟩ := DataW.trod_int Try.underlying23 g0
    injection e0 with e0 _; subst e0
    have b0 := bounds_u16 w0
    obtain ⟨a1, e1, _, w1⟩ := DataW.trod_int Try.underlying5 g1
    injection e1 with e1 _; subst e1
    have b1 := bounds_u8 w1
    obtain ⟨a2, e2, _, w2⟩ := DataW.trod_int Try.underlying5 g2
    injection e2 with e2 _; subst e2
    have b2 := bounds_u8 w2
    obtain ⟨a3, e3, _, w3⟩ := DataW.trod_int Try.underlying22 g3
    injection e3 with e3 _; subst e3
    have b3 := bounds_u32 w3
    obtain ⟨a4, e4, _, w4⟩ := DataW.trod_int Try.underlying22 g4
    injection e4 with e4 _; subst e4
    have b4 := bounds_u32 w4
    obtain ⟨a5, e5, _, w5⟩ := DataW.trod_int Try.underlying21 g5
    injection e5 with e5 _; subst e5
    have b5 := bounds_i32 w5
    obtain ⟨a6, e6, _, w6⟩ := DataW.trod_int Try.underlying23 g6
    injection e6 with e6 _; subst e6
    have b6 := bounds_u16 w6
    obtain ⟨a7, e7, _, w7⟩ := DataW.trod_int Try.underlying23 g7
    injection e7 with e7 _; subst e7
    have b7 := bounds_u16 w7
    exact ⟨⟨a0, a1, a2, a3, a4, a5, a6, a7⟩, rfl, ⟨b0, b1, b2, b3, b4, b5, b6, b7⟩, fun _ => trivial⟩
theorem word_of {H : Type} {enc : TypeId × Value → H} {w : World} {held : Bool} (fuel : Nat) (cs : List Value) (x : DataW H × List MemPlace) (h : DataW.trod enc Try.prog w 0 (fun _ => true) held fuel 22 cs = some x) :
    ∃ a : Int, cs = [Value.int .u32 a] ∧ (0 ≤ a ∧ a ≤ 4294967295) ∧ ((∀ N ∈ x.1.weights Try.prog 22, N ≤ reachBytes) → True) := by
  obtain ⟨a, e, _, wf⟩ := DataW.trod_int Try.underlying22 h
  exact ⟨a, e, bounds_u32 wf, fun _ => trivial⟩
/-- A state as it comes in. -/
structure SArg (w : World) (s : SE) : Prop where
  head : s.h.ok
  body : Reads w w.heap.size 1 s.A s.n (u8s s.B)
  oct : Oct s.B
  cap : s.n ≤ s.c ∧ s.c ≤ 9223372036854775807
theorem SArg.later {w w' : World} {s : SE} (h : SArg w s) (hb : Below w.heap.size w w') : SArg w' s := ⟨h.head, h.body.later hb, h.oct, h.cap⟩
theorem SArg.rd {w : World} {s : SE} (h : SArg w s) (hn : s.n ≤ 1099511627776) : s.rd w := ⟨h.head, h.body, h.oct, h.cap, hn⟩
def SE.cells (s : SE) : List Value := [.int .u16 s.h.age, .int .u8 s.h.opts, .int .u8 s.h.typ, .int .u32 s.h.id, .int .u32 s.h.adv, .int .i32 s.h.seq, .int .u16 s.h.sum, .int .u16 s.h.len, .slice s.A s.n s.c]
theorem st_len (s : SE) : s.cells.length = 9 := rfl
set_option maxRecDepth 100000 in
theorem state_of {H : Type} {enc : TypeId × Value → H} {w : World} {held : Bool} (fuel : Nat) (cs : List Value) (x : DataW H × List MemPlace) (h : DataW.trod enc Try.prog w 0 (fun _ => true) held fuel 76 cs = some x) :
    ∃ s : SE, cs = s.cells ∧ SArg w s ∧ ((∀ N ∈ x.1.weights Try.prog 76, N ≤ reachBytes) → s.n ≤ reachBytes) := by
  obtain ⟨xs, n, _, hxw, hl, hxl, hf⟩ := DataW.trod_struct Try.underlying76 h
  have hC : Try.prog.cellsOf 76 = 9 := by kernel_rfl
  rw [hC] at hl
  match cs, hl, xs, hxl with
  | [c0, c1, c2, c3, c4, c5, c6, c7, c8], _, [y0, y1], _ =>
    have g0 : DataW.trod enc Try.prog w 0 (fun _ => true) held n 74 (([c0, c1, c2, c3, c4, c5, c6, c7, c8].drop 0).take (Try.prog.cellsOf 74)) = some y0 := hf 0 _ rfl
    rw [show Try.prog.cellsOf 74 = 8 from by kernel_rfl] at g0
    replace g0 : DataW.trod enc Try.prog w 0 (fun _ => true) held n 74 [c0, c1, c2, c3, c4, c5, c6, c7] = some y0 := g0
    have g1 : DataW.trod enc Try.prog w 0 (fun _ => true) held n 39 (([c0, c1, c2, c3, c4, c5, c6, c7, c8].drop 8).take (Try.prog.cellsOf 39)) = some y1 := hf 1 _ rfl
    rw [show Try.prog.cellsOf 39 = 1 from by kernel_rfl] at g1
    replace g1 : DataW.trod enc Try.prog w 0 (fun _ => true) held n 39 [c8] = some y1 := g1
    obtain ⟨hd, e0, o0, -⟩ := head_of _ _ _ g0
    simp only [Hd.cells, List.cons.injEq, and_true] at e0
    obtain ⟨rfl, rfl, rfl, rfl, rfl, rfl, rfl, rfl⟩ := e0
    obtain ⟨A1, n1, k1, z1, rfl, ⟨r1, o1, m1⟩, v1⟩ := bytes_open Try.underlying39 Try.underlying5 (by kernel_rfl) (by kernel_rfl) g1
    refine ⟨⟨hd, A1, n1, k1, z1⟩, rfl, ⟨o0, r1, o1, m1⟩, fun hw => ?_⟩
    rw [hxw] at hw
    refine Nat.le_trans m1.1 (v1 fun N hN => hw N ?_)
    simp only [DataW.weights, Try.underlying76]
    exact DataW.weights_mem_each (j := 1) (t := 39) (d := y1.1) rfl rfl N hN
structure Stl (w : World) (A : Option Addr) (n : Nat) (L : List SE) : Prop where
  row : Reads w w.heap.size 9 A n (L.flatMap SE.cells)
  len : L.length = n
  ok : ∀ s ∈ L, SArg w s
theorem Stl.later {w w' : World} {A : Option Addr} {n : Nat} {L : List SE} (h : Stl w A n L) (hb : Below w.heap.size w w') : Stl w' A n L := ⟨h.row.later hb, h.len, fun s hs => (h.ok s hs).later hb⟩
/-- The cells of a state that stands at an address. -/
def StAt (w : World) (ad : Addr) (s : SE) : Prop :=
  w.cell? ad = some (.int .u16 s.h.age) ∧ w.cell? ⟨ad.block, ad.off + 1, none⟩ = some (.int .u8 s.h.opts) ∧ w.cell? ⟨ad.block, ad.off + 2, none⟩ = some (.int .u8 s.h.typ) ∧ w.cell? ⟨ad.block, ad.off + 3, none⟩ = some (.int .u32 s.h.id) ∧ w.cell? ⟨ad.block, ad.off + 4, none⟩ = some (.int .u32 s.h.adv) ∧
    w.cell? ⟨ad.block, ad.off + 5, none⟩ = some (.int .i32 s.h.seq) ∧ w.cell? ⟨ad.block, ad.off + 6, none⟩ = some (.int .u16 s.h.sum) ∧ w.cell? ⟨ad.block, ad.off + 7, none⟩ = some (.int .u16 s.h.len) ∧ w.cell? ⟨ad.block, ad.off + 8, none⟩ = some (.slice s.A s.n s.c)
theorem Stl.at_ {w : World} {A : Option Addr} {n i : Nat} {L : List SE} (h : Stl w A n L) (hi : i < n) : ∃ ad s, A = some ad ∧ ad.block < w.heap.size ∧ L[i]? = some s ∧ SArg w s ∧ StAt w (ad.add (i * 9)) s := by
  obtain ⟨ad, s, e, hb, hs, h0, hj⟩ := rowG_at st_len h.row h.len hi
  exact ⟨ad, s, e, hb, hs, h.ok s (List.mem_of_getElem? hs), h0 _ rfl, hj 1 _ (by decide) rfl, hj 2 _ (by decide) rfl, hj 3 _ (by decide) rfl, hj 4 _ (by decide) rfl, hj 5 _ (by decide) rfl, hj 6 _ (by decide) rfl, hj 7 _ (by decide) rfl, hj 8 _ (by decide) rfl⟩
theorem StAt.later {w w' : World} {ad : Addr} {s : SE} (h : StAt w ad s) (hb : Below w.heap.size w w') : StAt w' ad s := by
  obtain ⟨h0, h1, h2, h3, h4, h5, h6, h7, h8⟩ := h
  have hl := cell_lt h0
  have H : ∀ (p : Addr) v, w.cell? p = some v → w'.cell? p = some v := fun p v e => (hb.cell (cell_lt e)).trans e
  exact ⟨H _ _ h0, H _ _ h1, H _ _ h2, H _ _ h3, H _ _ h4, H _ _ h5, H _ _ h6, H _ _ h7, H _ _ h8⟩
theorem states_arg {H : Type} {enc : TypeId × Value → H} {w : World} {r : Reach} {b : Nat} {held : Bool} {v : Value} {d : DataW H} {p : List MemPlace}
    (hv : Value.okWide Try.prog w r b 31 v) (h : DataW.Trod enc Try.prog w 0 (fun _ => true) held 31 v d p) :
    ∃ (A : Option Addr) (n c : Nat) (L : List SE), v = .slice A n c ∧ Stl w A n L ∧ n ≤ c ∧ c ≤ 9223372036854775807 ∧ ((∀ N ∈ d.weights Try.prog 31, N ≤ reachBytes) → ∀ s ∈ L, s.n ≤ reachBytes) := by
  obtain ⟨A, n, c, L, e, h1, h2, h3, h4, h5, h6⟩ := slice_arg (cs := SE.cells) st_len (by decide) Try.underlying31 (by kernel_rfl) state_of hv h
  exact ⟨A, n, c, L, e, ⟨h1, h2, h3⟩, h4, h5, fun hw => (h6 hw).1⟩
theorem head_arg {H : Type} {enc : TypeId × Value → H} {w : World} {r : Reach} {b : Nat} {held : Bool} {v : Value} {d : DataW H} {p : List MemPlace}
    (hv : Value.okWide Try.prog w r b 74 v) (h : DataW.Trod enc Try.prog w 0 (fun _ => true) held 74 v d p) : ∃ h : Hd, v = h.v ∧ h.ok := by
  obtain ⟨cs, rfl, _⟩ := okWide_struct Try.underlying74 hv
  obtain ⟨fuel, hf⟩ := h
  obtain ⟨x, e, hx, -⟩ := head_of _ _ _ hf
  refine ⟨x, ?_, hx⟩
  obtain ⟨l⟩ := cs
  simp only [Value.cells] at e
  subst e
  rfl
theorem state_arg {H : Type} {enc : TypeId × Value → H} {w : World} {r : Reach} {b : Nat} {held : Bool} {v : Value} {d : DataW H} {p : List MemPlace}
    (hv : Value.okWide Try.prog w r b 76 v) (h : DataW.Trod enc Try.prog w 0 (fun _ => true) held 76 v d p) : ∃ s : SE, v = s.v ∧ SArg w s := by
  obtain ⟨cs, rfl, _⟩ := okWide_struct Try.underlying76 hv
  obtain ⟨fuel, hf⟩ := h
  obtain ⟨x, e, hx, -⟩ := state_of _ _ _ hf
  refine ⟨x, ?_, hx⟩
  obtain ⟨l⟩ := cs
  simp only [Value.cells] at e
  subst e
  rfl
theorem int_arg {w : World} {r : Reach} {b : Nat} {v : Value} (h : Value.okWide Try.prog w r b 3 v) : ∃ n, v = .int .i64 n := Go.WideShapes.okWide_int Try.underlying3 h
theorem u16_arg {H : Type} {enc : TypeId × Value → H} {w : World} {r : Reach} {b : Nat} {held : Bool} {v : Value} {d : DataW H} {p : List MemPlace}
    (hv : Value.okWide Try.prog w r b 23 v) (h : DataW.Trod enc Try.prog w 0 (fun _ => true) held 23 v d p) : ∃ n, v = .int .u16 n ∧ 0 ≤ n ∧ n ≤ 65535 := by
  obtain ⟨r, rfl, _, _, hwr⟩ := Go.ChangeShapes.open_int Try.underlying23 hv h
  exact ⟨r, rfl, bounds_u16 hwr⟩
theorem u8_arg {H : Type} {enc : TypeId × Value → H} {w : World} {r : Reach} {b : Nat} {held : Bool} {v : Value} {d : DataW H} {p : List MemPlace}
    (hv : Value.okWide Try.prog w r b 5 v) (h : DataW.Trod enc Try.prog w 0 (fun _ => true) held 5 v d p) : ∃ n, v = .int .u8 n ∧ 0 ≤ n ∧ n ≤ 255 := by
  obtain ⟨r, rfl, _, _, hwr⟩ := Go.ChangeShapes.open_int Try.underlying5 hv h
  exact ⟨r, rfl, bounds_u8 hwr⟩
end Go.Proofs.Ytbkejlalbjomkaa
