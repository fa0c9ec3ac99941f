/-
  Chains of keys: Choose of the program and of the reference, walked.
-/
import Derived.Test.YtkgdeneonobibaaAut2
import Derived.Test.YtkgdeneonobibaaKept
namespace Go.Proofs.Ytkgdeneonobibaa
set_option linter.unusedVariables false
open Go.RowKit

structure KOk (w : World) (k : AK) : Prop where
  id : 0 ≤ k.id ∧ k.id ≤ 255
  kind : 0 ≤ k.kind ∧ k.kind ≤ 65535
  sec : Reads w w.heap.size 1 k.A k.n (u8s k.bs)
  oct : Oct k.bs
  cap : k.n ≤ k.c ∧ k.c ≤ 9223372036854775807
theorem KOk.later {w w' : World} {k : AK} (h : KOk w k) (hb : Below w.heap.size w w') : KOk w' k := ⟨h.id, h.kind, h.sec.later hb, h.oct, h.cap⟩
/-- The slice A n reads as the keys L. -/
structure Keys (w : World) (A : Option Addr) (n : Nat) (L : List AK) : Prop where
  row : Reads w w.heap.size 7 A n (L.flatMap AK.cells)
  len : L.length = n
  ok : ∀ k ∈ L, KOk w k
theorem Keys.later {w w' : World} {A : Option Addr} {n : Nat} {L : List AK} (h : Keys w A n L) (hb : Below w.heap.size w w') : Keys w' A n L := ⟨h.row.later hb, h.len, fun k hk => (h.ok k hk).later hb⟩
theorem flat_get (L : List AK) (i j : Nat) (k : AK) (u : Value) (hk : L[i]? = some k) (hu : k.cells[j]? = some u) (hj : j < 7) : (L.flatMap AK.cells)[i * 7 + j]? = some u := by
  induction L generalizing i with
  | nil => simp at hk
  | cons a r ih =>
    rw [List.flatMap_cons]
    cases i with
    | zero =>
      simp at hk; subst hk
      rw [List.getElem?_append_left (by simp [AK.cells]; omega)]
      simpa using hu
    | succ i =>
      simp at hk
      rw [List.getElem?_append_right (by simp [AK.cells]; omega)]
      have : (i + 1) * 7 + j - a.cells.length = i * 7 + j := by simp [AK.cells]; omega
      rw [this]
      exact ih i hk
theorem add_lit (ad : Addr) (x j : Nat) (hj : 0 < j) : ad.add (x + j) = ⟨(ad.add x).block, (ad.add x).off + j, none⟩ := by
  unfold Addr.add
  by_cases h : x = 0
  · subst h; simp; omega
  · rw [if_neg (by omega), if_neg h]; simp [Nat.add_assoc]
theorem Keys.at_ {w : World} {A : Option Addr} {n i : Nat} {L : List AK} (h : Keys w A n L) (hi : i < n) : ∃ ad k, A = some ad ∧ ad.block < w.heap.size ∧ Hid (L[i]? = some k) ∧ Hid (KOk w k) ∧
    (w.cell? (ad.add (i * 7)) = some (.int .u8 k.id) ∧ w.cell? ⟨(ad.add (i * 7)).block, (ad.add (i * 7)).off + 1, none⟩ = some (.int .u16 k.kind) ∧ w.cell? ⟨(ad.add (i * 7)).block, (ad.add (i * 7)).off + 2, none⟩ = some (.slice k.A k.n k.c) ∧
     w.cell? ⟨(ad.add (i * 7)).block, (ad.add (i * 7)).off + 3, none⟩ = some (.int .i64 k.sf) ∧ w.cell? ⟨(ad.add (i * 7)).block, (ad.add (i * 7)).off + 4, none⟩ = some (.int .i64 k.su) ∧ w.cell? ⟨(ad.add (i * 7)).block, (ad.add (i * 7)).off + 5, none⟩ = some (.int .i64 k.tf) ∧ w.cell? ⟨(ad.add (i * 7)).block, (ad.add (i * 7)).off + 6, none⟩ = some (.int .i64 k.tu)) := by
  obtain ⟨ad, e, hb, hc⟩ := h.row.2 (by omega)
  have hl : i < L.length := by have := h.len; omega
  have H : ∀ j u, j < 7 → L[i].cells[j]? = some u → w.cell? (ad.add (i * 7 + j)) = some u := fun j u hj hu => hc _ _ (flat_get L i j _ u (List.getElem?_eq_getElem hl) hu hj)
  exact ⟨ad, L[i], e, hb, List.getElem?_eq_getElem hl, h.ok _ (List.getElem_mem hl), H 0 _ (by decide) rfl, add_lit ad _ 1 (by decide) ▸ H 1 _ (by decide) rfl, add_lit ad _ 2 (by decide) ▸ H 2 _ (by decide) rfl, add_lit ad _ 3 (by decide) ▸ H 3 _ (by decide) rfl,
    add_lit ad _ 4 (by decide) ▸ H 4 _ (by decide) rfl, add_lit ad _ 5 (by decide) ▸ H 5 _ (by decide) rfl, add_lit ad _ 6 (by decide) ▸ H 6 _ (by decide) rfl⟩

/-- The best of the first i keys. -/
def better (L : List AK) (b : Int) (k : AK) : Bool := match L[b.toNat]? with
  | some o => decide (b < 0) || (decide (o.sf < k.sf) || (k.sf == o.sf && decide (o.id < k.id)))
  | none => true
def chooseTo (L : List AK) (now : Int) : Nat → Int
  | 0 => -1
  | i + 1 => match L[i]? with
    | none => chooseTo L now i
    | some k => if now < k.sf ∨ k.su < now then chooseTo L now i else if better L (chooseTo L now i) k then (i : Int) else chooseTo L now i
def chooseOf (L : List AK) (now : Int) : Int := chooseTo L now L.length
def ChRel (w : World) (L : List AK) (now : Int) (n : Nat) (i b : Value) (wr : World) : Prop :=
  ∃ (k : Nat), i = .int .i64 k ∧ k ≤ n ∧ b = .int .i64 (chooseTo L now k) ∧ Below w.heap.size w wr

theorem chooseTo_ok (L : List AK) (now : Int) : ∀ i, chooseTo L now i = -1 ∨ ∃ m o, m < i ∧ chooseTo L now i = (m : Nat) ∧ L[m]? = some o := by
  intro i
  induction i with
  | zero => exact .inl rfl
  | succ i ih =>
    have up : (chooseTo L now i = -1 ∨ ∃ m o, m < i ∧ chooseTo L now i = (m : Nat) ∧ L[m]? = some o) → (chooseTo L now i = -1 ∨ ∃ m o, m < i + 1 ∧ chooseTo L now i = (m : Nat) ∧ L[m]? = some o) := by
      rintro (h | ⟨m, o, h1, h2, h3⟩)
      · exact .inl h
      · exact .inr ⟨m, o, by omega, h2, h3⟩
    unfold chooseTo
    split
    · exact up ih
    · rename_i k hk
      split
      · exact up ih
      · split
        · exact .inr ⟨i, k, by omega, rfl, hk⟩
        · exact up ih
theorem choose_skip {L : List AK} {now : Int} {i : Nat} {k : AK} (hk : L[i]? = some k) (h : now < k.sf ∨ k.su < now) : chooseTo L now (i + 1) = chooseTo L now i := by
  conv => lhs; unfold chooseTo
  simp only [hk, if_pos h]
theorem choose_take {L : List AK} {now : Int} {i : Nat} {k : AK} (hk : L[i]? = some k) (h1 : k.sf ≤ now) (h2 : now ≤ k.su) (hb : better L (chooseTo L now i) k = true) : chooseTo L now (i + 1) = i := by
  conv => lhs; unfold chooseTo
  simp only [hk, if_neg (by omega : ¬ (now < k.sf ∨ k.su < now)), hb, if_true]
theorem choose_leave {L : List AK} {now : Int} {i : Nat} {k : AK} (hk : L[i]? = some k) (h1 : k.sf ≤ now) (h2 : now ≤ k.su) (hb : better L (chooseTo L now i) k = false) : chooseTo L now (i + 1) = chooseTo L now i := by
  conv => lhs; unfold chooseTo
  simp only [hk, if_neg (by omega : ¬ (now < k.sf ∨ k.su < now)), hb, Bool.false_eq_true, if_false]
theorem better_neg (L : List AK) (k : AK) : better L (-1) k = true := by
  unfold better
  split
  · simp
  · rfl
theorem better_at {L : List AK} {m : Nat} {o : AK} (k : AK) (h : L[m]? = some o) : better L (m : Nat) k = (decide (o.sf < k.sf) || (k.sf == o.sf && decide (o.id < k.id))) := by
  unfold better
  rw [Int.toNat_natCast, h]
  simp
  intro h2
  omega
set_option maxHeartbeats 2000000 in
theorem choose_any (A : Option Addr) (n c : Nat) (L : List AK) (now : Int) (w : World) (hL : Keys w A n L) (hn : n ≤ 9223372036854775807) :
    Calls Try.prog 14 #[.slice A n c, .int .i64 now] w fun e w' => e = .returned (.int .i64 (chooseOf L now)) ∧ Below w.heap.size w w' := by
  have HL := Lib.hid hL
  clear hL
  go_enter Try.func14, Try.ntmps14
  go_wp2
  go_loopw [10, 5] (ChRel w L now n) (fun i _ _ => n - (intOf i).toNat)
  case atStart => exact ⟨0, rfl, by omega, rfl, Below.refl _ _⟩
  case round =>
    obtain ⟨i, rfl, hi, rfl, hb⟩ := hrel
    have HB := Lib.hid hb
    clear hb
    by_cases hlt : i < n
    · obtain ⟨ad, k, rfl, hbl, hk, hok, c0, c1, c2, c3, c4, c5, c6⟩ := (HL.out.later HB.out).at_ hlt
      obtain ⟨id, kind, S, sn, sc, sf, su, tf, tu, bs⟩ := k
      simp only at c0 c1 c2 c3 c4 c5 c6
      have HB1 : Hid (Below w.heap.size w (wr.alloc (.cells #[.int .u8 id, .int .u16 kind, .slice S sn sc, .int .i64 sf, .int .i64 su, .int .i64 tf, .int .i64 tu] 70))) := HB.out.alloc HB.out.size _
      by_cases g1 : now < sf
      · clear hok
        go_wp2
        go_roundw
        case rel => exact ⟨i + 1, by simp, by omega, by rw [choose_skip hk.out (.inl g1)], HB1.out⟩
        case measure => simp [intOf]; omega
      by_cases g2 : su < now
      · clear hok
        go_wp2
        go_roundw
        case rel => exact ⟨i + 1, by simp, by omega, by rw [choose_skip hk.out (.inr g2)], HB1.out⟩
        case measure => simp [intOf]; omega
      have HC : Hid (Blk (wr.alloc (.cells #[.int .u8 id, .int .u16 kind, .slice S sn sc, .int .i64 sf, .int .i64 su, .int .i64 tf, .int .i64 tu] 70)) wr.heap.size 70 #[.int .u8 id, .int .u16 kind, .slice S sn sc, .int .i64 sf, .int .i64 su, .int .i64 tf, .int .i64 tu]) := Blk.new _ _ _
      rcases chooseTo_ok L now i with hneg | ⟨m, o, hm, hmi, ho⟩
      · rw [hneg]
        go_wp2
        have HK1 := Lib.hid (HL.out.later HB1.out)
        generalize wr.alloc (.cells #[.int .u8 id, .int .u16 kind, .slice S sn sc, .int .i64 sf, .int .i64 su, .int .i64 tf, .int .i64 tu] 70) = w1 at *
        generalize wr.heap.size = g0 at *
        have j0 := HC.out.cell 0
        have j1 := HC.out.cell 1
        have j2 := HC.out.cell 2
        have j3 := HC.out.cell 3
        have j4 := HC.out.cell 4
        have j5 := HC.out.cell 5
        have j6 := HC.out.cell 6
        simp only [List.getElem?_toArray, List.getElem?_cons_zero, List.getElem?_cons_succ] at j0 j1 j2 j3 j4 j5 j6
        clear HC c0 c1 c2 c3 c4 c5 c6 hok
        go_quiet (fail)
        go_wp2
        go_roundw
        case rel => exact ⟨i + 1, by simp, by omega, by rw [choose_take hk.out g1 g2 (by rw [hneg]; exact better_neg _ _)], below_drewN HB1.out _⟩
        case measure => simp [intOf]; omega
      · have ho := Lib.hid ho
        rw [hmi]
        go_wp2
        have HK1 := Lib.hid (HL.out.later HB1.out)
        generalize wr.alloc (.cells #[.int .u8 id, .int .u16 kind, .slice S sn sc, .int .i64 sf, .int .i64 su, .int .i64 tf, .int .i64 tu] 70) = w1 at *
        generalize wr.heap.size = g0 at *
        have j0 := HC.out.cell 0
        have j1 := HC.out.cell 1
        have j2 := HC.out.cell 2
        have j3 := HC.out.cell 3
        have j4 := HC.out.cell 4
        have j5 := HC.out.cell 5
        have j6 := HC.out.cell 6
        simp only [List.getElem?_toArray, List.getElem?_cons_zero, List.getElem?_cons_succ] at j0 j1 j2 j3 j4 j5 j6
        clear HC c0 c1 c2 c3 c4 c5 c6 hok
        obtain ⟨ad2, o2, e2, _, ho2, _, d0, d1, d2, d3, d4, d5, d6⟩ := HK1.out.at_ (i := m) (by omega)
        obtain rfl : ad = ad2 := by injection e2
        obtain rfl : o = o2 := by have := ho.out.symm.trans ho2.out; injection this
        clear e2 ho2
        have hbt := Lib.hid (better_at (m := m) ⟨id, kind, S, sn, sc, sf, su, tf, tu, bs⟩ ho.out)
        obtain ⟨oid, okind, oS, osn, osc, osf, osu, otf, otu, obs⟩ := o
        simp only at d0 d1 d2 d3 d4 d5 d6
        have hmn : m < n := by omega
        have hmz : decide ((m : Int) < 0) = false := decide_eq_false (by omega)
        by_cases e1 : osf < sf
        · go_quiet (fail)
          go_wp2
          go_roundw
          case rel => exact ⟨i + 1, by simp, by omega, by rw [choose_take hk.out g1 g2 (by rw [hmi, hbt.out]; simp [e1])], below_drewN HB1.out _⟩
          case measure => simp [intOf]; omega
        have e1' : decide (osf < sf) = false := decide_eq_false e1
        by_cases e2 : sf = osf
        · subst e2
          by_cases e3 : oid < id
          · go_quiet (fail)
            go_wp2
            go_roundw
            case rel => exact ⟨i + 1, by simp, by omega, by rw [choose_take hk.out g1 g2 (by rw [hmi, hbt.out]; simp [e3])], below_drewN HB1.out _⟩
            case measure => simp [intOf]; omega
          · have e3' : decide (oid < id) = false := decide_eq_false e3
            go_quiet (fail)
            go_wp2
            go_roundw
            case rel => exact ⟨i + 1, by simp, by omega, by rw [choose_leave hk.out g1 g2 (by rw [hmi, hbt.out]; simp [e3])]; rw [hmi], below_drewN HB1.out _⟩
            case measure => simp [intOf]; omega
        · have e2' : (sf == osf) = false := by rw [beq_eq_false_iff_ne]; exact e2
          go_quiet (fail)
          go_wp2
          go_roundw
          case rel => exact ⟨i + 1, by simp, by omega, by rw [choose_leave hk.out g1 g2 (by rw [hmi, hbt.out]; simp [e1, e2])]; rw [hmi], below_drewN HB1.out _⟩
          case measure => simp [intOf]; omega
    · obtain rfl : i = n := by omega
      have hfin : Hid (chooseTo L now i = chooseOf L now) := by show _ = _; unfold chooseOf; rw [HL.out.len]
      rw [hfin.out]
      go_wp2
      go_ret
      exact ⟨rfl, HB.out⟩
end Go.Proofs.Ytkgdeneonobibaa
