/-
  auth.taken: the iterator, inside a fence.
  auth.Open with a password, walked whole.
-/
import Derived.RangeFuncNested
import Derived.RangeFuncBound
import Derived.RangeFuncCalls
import Derived.RangeFuncLeaves
import Derived.Shelf.Abstract
import Derived.Shelf.RegionOpen
import Derived.WalkKit
import Derived.OwnWalkIn
import Derived.TacticsInMore
import Derived.LoopNIn
import Derived.LoopIn
import Derived.Test.YtbkejlalbjomkaaAQ1
import Derived.Laws.Cover3
import Derived.Test.YtbkejlalbjomkaaAutP8
import Derived.Test.YtbkejlalbjomkaaArrEq
namespace Go.Proofs.Ytbkejlalbjomkaa
set_option linter.unusedVariables false
open Go.RowKit
set_option maxHeartbeats 1000000 in
theorem awhole_any (A : Option Addr) (n c : Nat) (xs : List Int) (N : Int) (w : World) (hx : Reads w w.heap.size 1 A n (u8s xs)) (ho : Oct xs) (hc : n ≤ c) (hm : c ≤ 9223372036854775807) (hn : n ≤ 1099511627776) :
    Calls Try.prog 72 #[.slice A n c, .int .i64 N] w fun e w' => e = .returned (.int .i64 (wholeOf xs N)) ∧ Below w.heap.size w w' := by
  have hl := hx.u8len
  have HR := Lib.hid (pright_any A n c xs w hx ho hc hm hn)
  clear hx ho
  by_cases h0 : (n : Int) = N
  · have h1 : ((n : Int) == N) = true := by simpa using h0
    have h2 : ((n : Int) != N) = false := by rw [bne, h1]; rfl
    cases hr : pkRight xs
    · have hv : Hid (wholeOf xs N = 23) := by show _ = _; unfold wholeOf; rw [if_neg (by rw [hl]; omega), hr]; rfl
      rw [hr] at HR
      clear h0 hr
      go_enter Try.func72, Try.ntmps72
      go_wp2_with (go_at_call 18; refine HR.out.mono ?_; rintro e w1 ⟨rfl, hb⟩; have HB := Lib.hid hb; clear hb HR)
      go_ret
      exact ⟨by rw [hv.out]; rfl, HB.out⟩
    · have hv : Hid (wholeOf xs N = 0) := by show _ = _; unfold wholeOf; rw [if_neg (by rw [hl]; omega), hr]; rfl
      rw [hr] at HR
      clear h0 hr
      go_enter Try.func72, Try.ntmps72
      go_wp2_with (go_at_call 18; refine HR.out.mono ?_; rintro e w1 ⟨rfl, hb⟩; have HB := Lib.hid hb; clear hb HR)
      go_ret
      exact ⟨by rw [hv.out]; rfl, HB.out⟩
  · have h1 : ((n : Int) == N) = false := by simpa using h0
    have h2 : ((n : Int) != N) = true := by rw [bne, h1]; rfl
    have hv : Hid (wholeOf xs N = 22) := by show _ = _; unfold wholeOf; rw [if_pos (by rw [hl]; omega)]
    clear h0 HR
    go_enter Try.func72, Try.ntmps72
    go_wp2
    go_ret
    exact ⟨by rw [hv.out]; rfl, Below.refl _ _⟩
end Go.Proofs.Ytbkejlalbjomkaa
namespace Go.Proofs.Ytbkejlalbjomkaa
set_option linter.unusedVariables false
open Go.RowKit Go.Shelf
attribute [local go_sem] Oper.semAt_some

def tkB (now : Int) (k : AK) : Bool := decide (k.tf ≤ now) && decide (now ≤ k.tu)
/-- The taken ones of the first j keys. -/
def takenTo (L : List AK) (now : Int) (j : Nat) : List {k : AK // k ∈ L} := (L.attach.take j).filter fun k => tkB now k.1
theorem attach_get {L : List AK} {j : Nat} {k : AK} (h : L[j]? = some k) : L.attach[j]? = some ⟨k, List.mem_of_getElem? h⟩ := by
  have hj := (List.getElem?_eq_some_iff.1 h).1
  have he := (List.getElem?_eq_some_iff.1 h).2
  rw [List.getElem?_eq_getElem (by simpa using hj)]
  simp [he]
theorem takenTo_yes {L : List AK} {now : Int} {j : Nat} {k : AK} (h : L[j]? = some k) (ht : tkB now k = true) : takenTo L now (j + 1) = takenTo L now j ++ [⟨k, List.mem_of_getElem? h⟩] := by
  unfold takenTo
  rw [List.take_add_one, attach_get h, List.filter_append]
  simp [ht]
theorem takenTo_no {L : List AK} {now : Int} {j : Nat} {k : AK} (h : L[j]? = some k) (ht : tkB now k = false) : takenTo L now (j + 1) = takenTo L now j := by
  unfold takenTo
  rw [List.take_add_one, attach_get h, List.filter_append]
  simp [ht]
theorem takenTo_len (L : List AK) (now : Int) (j : Nat) : (takenTo L now j).length ≤ j := by
  unfold takenTo
  refine Nat.le_trans (List.length_filter_le _ _) ?_
  rw [List.length_take]
  exact Nat.min_le_left _ _
theorem takenTo_pre (L : List AK) (now : Int) {j : Nat} (h : j ≤ L.length) : takenTo L now j <+: takenTo L now L.length := by
  unfold takenTo
  rw [List.take_of_length_le (l := L.attach) (i := L.length) (by simp)]
  exact (List.take_prefix j L.attach).filter _
theorem row_at {w : World} {B n i : Nat} {ad : Addr} {L : List AK} (h : Reads w B 7 (some ad) n (L.flatMap AK.cells)) {k : AK} (hi : i < n) (hk : L[i]? = some k) :
    ad.block < B ∧ (w.cell? (ad.add (i * 7)) = some (.int .u8 k.id) ∧ w.cell? ⟨(ad.add (i * 7)).block, (ad.add (i * 7)).off + 1, none⟩ = some (.int .u16 k.kind) ∧ w.cell? ⟨(ad.add (i * 7)).block, (ad.add (i * 7)).off + 2, none⟩ = some (.slice k.A k.n k.c) ∧
     w.cell? ⟨(ad.add (i * 7)).block, (ad.add (i * 7)).off + 3, none⟩ = some (.int .i64 k.sf) ∧ w.cell? ⟨(ad.add (i * 7)).block, (ad.add (i * 7)).off + 4, none⟩ = some (.int .i64 k.su) ∧ w.cell? ⟨(ad.add (i * 7)).block, (ad.add (i * 7)).off + 5, none⟩ = some (.int .i64 k.tf) ∧ w.cell? ⟨(ad.add (i * 7)).block, (ad.add (i * 7)).off + 6, none⟩ = some (.int .i64 k.tu)) := by
  obtain ⟨ad', e, hb, hc⟩ := h.2 (by omega)
  injection e with e; subst e
  have H : ∀ j u, j < 7 → k.cells[j]? = some u → w.cell? (ad.add (i * 7 + j)) = some u := fun j u hj hu => hc _ _ (flat_get L i j k u hk hu hj)
  exact ⟨hb, H 0 _ (by decide) rfl, add_lit ad _ 1 (by decide) ▸ H 1 _ (by decide) rfl, add_lit ad _ 2 (by decide) ▸ H 2 _ (by decide) rfl, add_lit ad _ 3 (by decide) ▸ H 3 _ (by decide) rfl,
    add_lit ad _ 4 (by decide) ▸ H 4 _ (by decide) rfl, add_lit ad _ 5 (by decide) ▸ H 5 _ (by decide) rfl, add_lit ad _ 6 (by decide) ▸ H 6 _ (by decide) rfl⟩
set_option maxRecDepth 100000 in
set_option maxHeartbeats 2000000 in
theorem taken1_in (F : Fence) (n : Nat) (hf : F.fn 95) (hro : F.round = none) (hn : 1 ≤ n) (l B1 B2 n₀ : Nat) (A : Option Addr) (m c : Nat) (L : List AK) (now : Int) (hm : m ≤ 9223372036854775807) (hLl : L.length = m)
    (J Jx : List {k : AK // k ∈ L} → World → Prop) (W : World) (hJ : AbidesFrom W.heap.size J)
    (hY : ∀ pre x W1, J pre W1 → pre.length < L.length → YieldAt F (n - 1) Try.prog l #[x.1.v] W1 fun e W' =>
      (e = .returned (.bool true) ∧ J (pre ++ [x]) W' ∧ Below n₀ W1 W') ∨ (e = .returned (.bool false) ∧ Jx (pre ++ [x]) W'))
    (hn₀ : n₀ ≤ W.heap.size) (hb1 : B1 < n₀) (hb2 : B2 < n₀) (hB1 : W.cell? ⟨B1, 0, none⟩ = some (.slice A m c)) (hB2 : W.cell? ⟨B2, 0, none⟩ = some (.int .i64 now)) (hL : Reads W n₀ 7 A m (L.flatMap AK.cells)) (h0 : J [] W) :
    CallsIn F n Try.prog 95 #[.func (.yield l) #[] #[], .pointer (some ⟨B1, 0, none⟩), .pointer (some ⟨B2, 0, none⟩)] W fun e W' => (∃ v, e = .returned v) ∧
      ((∃ ys, ys = takenTo L now L.length ∧ J ys W') ∨ (∃ pre, pre <+: takenTo L now L.length ∧ Jx pre W')) := by
  have HL := Lib.hid hL
  have HJ0 := Lib.hid h0
  clear hL h0
  refine callsIn_of_wp Try.func95 rfl hf ?_ hro
  simp only [Try.ntmps95, List.size_toArray, List.length_cons, List.length_nil, Nat.reduceAdd, Nat.reduceSub, Array.replicate_succ, Array.replicate_zero, List.push_toArray, List.append_toArray, List.nil_append, List.cons_append]
  gi_wp2
  gi_loopw [8] (fun i wr => ∃ j : Nat, i = .int .i64 j ∧ j ≤ m ∧ J (takenTo L now j) wr ∧ Below n₀ W wr)
    (fun i _ => m - (intOf i).toNat)
  case atStart => exact ⟨0, rfl, by omega, HJ0.out, Below.refl _ _⟩
  case round =>
    obtain ⟨j, rfl, hj, hJs, hb⟩ := hrel
    have HB := Lib.hid hb
    have d2 : wr.cell? ⟨B2, 0, none⟩ = some (.int .i64 now) := (hb.cell (p := ⟨B2, 0, none⟩) hb2).trans hB2
    clear hb
    by_cases hlt : j < m
    · obtain ⟨k, hk⟩ : ∃ k, L[j]? = some k := ⟨_, List.getElem?_eq_getElem (by omega)⟩
      have hk := Lib.hid hk
      obtain ⟨ad, rfl⟩ : ∃ ad, A = some ad := by obtain ⟨ad, e, _⟩ := HL.out.2 (by omega); exact ⟨ad, e⟩
      obtain ⟨_, c0, c1, c2, c3, c4, c5, c6⟩ := row_at (HL.out.below HB.out) hlt hk.out
      have hlen := takenTo_len L now j
      obtain ⟨id, kind, S, sn, sc, sf, su, tf, tu, bs⟩ := k
      simp only at c0 c1 c2 c3 c4 c5 c6
      have hB1' : Below n₀ W (wr.alloc (.cells #[.int .u8 id, .int .u16 kind, .slice S sn sc, .int .i64 sf, .int .i64 su, .int .i64 tf, .int .i64 tu] 59)) := HB.out.alloc (Nat.le_trans hn₀ HB.out.size) _
      have HB1' := Lib.hid hB1'
      clear hB1'
      have d3 : (wr.alloc (.cells #[.int .u8 id, .int .u16 kind, .slice S sn sc, .int .i64 sf, .int .i64 su, .int .i64 tf, .int .i64 tu] 59)).cell? ⟨B2, 0, none⟩ = some (.int .i64 now) := by rw [World.cell?_alloc_lt wr _ ⟨B2, 0, none⟩ (cell_lt d2)]; exact d2
      by_cases g1 : tf ≤ now
      · by_cases g2 : now ≤ tu
        · have hJ1 : J (takenTo L now j) (wr.alloc (.cells #[.int .u8 id, .int .u16 kind, .slice S sn sc, .int .i64 sf, .int .i64 su, .int .i64 tf, .int .i64 tu] 59)) := hJ _ wr _ none hJs (World.grownBy_alloc wr _ none) (fun r e => by cases e)
          obtain ⟨fn, tmps, assign, body, hy, hR⟩ := hY _ ⟨_, List.mem_of_getElem? hk.out⟩ _ hJ1 (by omega)
          have HST := Lib.hid (takenTo_yes (now := now) hk.out (by simp [tkB, g1, g2]))
          have HP := Lib.hid (takenTo_pre L now (j := j + 1) (by omega))
          dsimp only at hy
          gi_wp2
          refine hR.mono ?_
          rintro e W3 (⟨rfl, hJ3, hk3⟩ | ⟨rfl, hJx3⟩)
          · rw [← HST.out] at hJ3
            gi_wp2
            go_roundw
            case rel => exact ⟨j + 1, by simp, by omega, hJ3, HB1'.out.trans hk3⟩
            case measure => simp [intOf]; omega
          · rw [← HST.out] at hJx3
            gi_wp2
            refine bodyPost_ret (results_none rfl _ _ _) rfl ?_
            exact ⟨⟨_, rfl⟩, .inr ⟨_, HP.out, hJx3⟩⟩
        · have g2' : decide (now ≤ tu) = false := decide_eq_false g2
          have HST := Lib.hid (takenTo_no (now := now) hk.out (by simp [tkB, g2]))
          have hJ1 : J (takenTo L now j) (wr.alloc (.cells #[.int .u8 id, .int .u16 kind, .slice S sn sc, .int .i64 sf, .int .i64 su, .int .i64 tf, .int .i64 tu] 59)) := hJ _ wr _ none hJs (World.grownBy_alloc wr _ none) (fun r e => by cases e)
          rw [← HST.out] at hJ1
          gi_wp2
          refine ⟨fun _ h => (by cases h), ?_⟩
          gi_wp2
          go_roundw
          case rel => exact ⟨j + 1, by simp, by omega, hJ1, HB1'.out⟩
          case measure => simp [intOf]; omega
      · have g1' : decide (tf ≤ now) = false := decide_eq_false g1
        have HST := Lib.hid (takenTo_no (now := now) hk.out (by simp [tkB, g1]))
        have hJ1 : J (takenTo L now j) (wr.alloc (.cells #[.int .u8 id, .int .u16 kind, .slice S sn sc, .int .i64 sf, .int .i64 su, .int .i64 tf, .int .i64 tu] 59)) := hJ _ wr _ none hJs (World.grownBy_alloc wr _ none) (fun r e => by cases e)
        rw [← HST.out] at hJ1
        gi_wp2
        refine ⟨fun _ h => (by cases h), ?_⟩
        gi_wp2
        go_roundw
        case rel => exact ⟨j + 1, by simp, by omega, hJ1, HB1'.out⟩
        case measure => simp [intOf]; omega
    · obtain rfl : j = m := by omega
      gi_wp2
      go_end0
      exact ⟨⟨_, rfl⟩, .inl ⟨_, by rw [← hLl], hJs⟩⟩
end Go.Proofs.Ytbkejlalbjomkaa
namespace Go.Proofs.Ytbkejlalbjomkaa
set_option linter.unusedVariables false
open Go.RowKit Go.Shelf
attribute [local go_sem] Oper.semAt_some

theorem taken_any (A : Option Addr) (m c : Nat) (now : Int) (w : World) : Calls Try.prog 77 #[.slice A m c, .int .i64 now] w fun e w' =>
    e = .returned (.func (.func 95) #[] #[.pointer (some ⟨w.heap.size, 0, none⟩), .pointer (some ⟨w.heap.size + 1, 0, none⟩)]) ∧ w' = (w.alloc (.cells #[.slice A m c] 61)).alloc (.cells #[.int .i64 now] 3) := by
  go_enter Try.func77, Try.ntmps77
  go_wp2
  go_ret
  exact ⟨rfl, rfl⟩
/-- The four boxes of Open. -/
structure OB (w W : World) (g : Nat) (sl v6 v7 v8 : Value) : Prop where
  b0 : Blk W g 39 #[sl]
  b1 : Blk W (g + 1) 22 #[v6]
  b2 : Blk W (g + 1 + 1) 3 #[v7]
  b3 : Blk W (g + 1 + 1 + 1) 40 #[v8]
  bel : Below g w W
theorem OB.later {w W W' : World} {g : Nat} {sl v6 v7 v8 : Value} (h : OB w W g sl v6 v7 v8) (hb : Below W.heap.size W W') : OB w W' g sl v6 v7 v8 :=
  ⟨h.b0.later hb, h.b1.later hb, h.b2.later hb, h.b3.later hb, h.bel.trans (hb.mono (Nat.le_of_lt h.b0.lt))⟩
theorem OB.drewN {w W : World} {g : Nat} {sl v6 v7 v8 : Value} (h : OB w W g sl v6 v7 v8) (d : Nat) : OB w (W.drewN d) g sl v6 v7 v8 := ⟨h.b0, h.b1, h.b2, h.b3, below_drewN h.bel d⟩
theorem OB.set7 {w W : World} {g : Nat} {sl v6 v7 v8 : Value} (h : OB w W g sl v6 v7 v8) (u : Value) : OB w (W.setCell ⟨g + 1 + 1, 0, none⟩ u) g sl v6 u v8 :=
  ⟨h.b0.far (p := ⟨g + 1 + 1, 0, none⟩) (by simp <;> omega) _, h.b1.far (p := ⟨g + 1 + 1, 0, none⟩) (by simp) _, h.b2.set_ 0 u, h.b3.far (p := ⟨g + 1 + 1, 0, none⟩) (by simp) _, h.bel.setCell (p := ⟨g + 1 + 1, 0, none⟩) (by simp <;> omega) _⟩
theorem OB.set8 {w W : World} {g : Nat} {sl v6 v7 v8 : Value} (h : OB w W g sl v6 v7 v8) (u : Value) : OB w (W.setCell ⟨g + 1 + 1 + 1, 0, none⟩ u) g sl v6 v7 u :=
  ⟨h.b0.far (p := ⟨g + 1 + 1 + 1, 0, none⟩) (by simp <;> omega) _, h.b1.far (p := ⟨g + 1 + 1 + 1, 0, none⟩) (by simp <;> omega) _, h.b2.far (p := ⟨g + 1 + 1 + 1, 0, none⟩) (by simp) _, h.b3.set_ 0 u, h.bel.setCell (p := ⟨g + 1 + 1 + 1, 0, none⟩) (by simp <;> omega) _⟩
theorem OB.set6 {w W : World} {g : Nat} {sl v6 v7 v8 : Value} (h : OB w W g sl v6 v7 v8) (u : Value) : OB w (W.setCell ⟨g + 1, 0, none⟩ u) g sl u v7 v8 :=
  ⟨h.b0.far (p := ⟨g + 1, 0, none⟩) (by simp) _, h.b1.set_ 0 u, h.b2.far (p := ⟨g + 1, 0, none⟩) (by simp) _, h.b3.far (p := ⟨g + 1, 0, none⟩) (by simp <;> omega) _, h.bel.setCell (p := ⟨g + 1, 0, none⟩) (by simp) _⟩
theorem four_new (w : World) (sl : Value) : OB w ((((w.alloc (.cells #[sl] 39)).alloc (.cells #[.int .u32 0] 22)).alloc (.cells #[.int .i64 0] 3)).alloc (.cells #[.int .i64 0] 40)) w.heap.size sl (.int .u32 0) (.int .i64 0) (.int .i64 0) := by
  have h1 : Blk ((w.alloc (.cells #[sl] 39)).alloc (.cells #[.int .u32 0] 22)) (w.heap.size + 1) 22 #[.int .u32 0] := new_at _ _ _
  have h2 := Blk.new ((w.alloc (.cells #[sl] 39)).alloc (.cells #[.int .u32 0] 22)) 3 #[.int .i64 0]
  have h3 := Blk.new (((w.alloc (.cells #[sl] 39)).alloc (.cells #[.int .u32 0] 22)).alloc (.cells #[.int .i64 0] 3)) 40 #[.int .i64 0]
  simp only [World.size_alloc] at h2 h3
  exact ⟨(((Blk.new _ _ _).alloc _).alloc _).alloc _, (h1.alloc _).alloc _, h2.alloc _, h3, ((((Below.refl _ _).alloc (Nat.le_refl _) _).alloc (by rw [World.size_alloc]; omega) _).alloc (by rw [World.size_alloc, World.size_alloc]; omega) _).alloc (by rw [World.size_alloc, World.size_alloc, World.size_alloc]; omega) _⟩

theorem below_two_ (w : World) (A B : Obj) : Below w.heap.size w ((w.alloc A).alloc B) := ((Below.refl _ _).alloc (Nat.le_refl _) _).alloc (by rw [World.size_alloc]; omega) _
theorem OB.own {w : World} {g B : Nat} {sl v6 v7 v8 : Value} (hB : g + 1 + 1 + 1 < B) {β : Type} : OwnFrom B (fun (_ : β) W => OB w W g sl v6 v7 v8) := by
  intro s W W' row h hg hr
  have ne : ∀ k, k < B → some k ≠ row := fun k hk e => by have := (hr k e.symm).1; omega
  refine ⟨h.b0.grown hg (ne _ (by omega)), h.b1.grown hg (ne _ (by omega)), h.b2.grown hg (ne _ (by omega)), h.b3.grown hg (ne _ hB), ?_⟩
  exact h.bel.grown hg (Nat.le_of_lt h.b0.lt) (fun k e => by have := (hr k e).1; omega)
theorem blk_own {B g : Nat} {t : TypeId} {cs : Array Value} {β : Type} : OwnFrom B (fun (_ : β) W => Blk W g t cs) := by
  intro s W W' row h hg hr
  refine h.grown hg (fun e => ?_)
  obtain ⟨_, o, ho, hc⟩ := hr g e.symm
  have : some o = some (Obj.cells cs t) := ho.symm.trans h
  injection this with this
  subst this
  cases hc
theorem KeepsFrom.of_below {B : Nat} {W W' : World} (h : Below W.heap.size W W') : KeepsFrom B W W' := ⟨h.size, fun k o _ hk _ => (h.block k (Array.getElem?_eq_some_iff.1 hk).1).trans hk⟩
def opOut (xs : List Int) (L : List AK) (now : Int) (N : Nat) : Value :=
  if (takenTo L now L.length).any (fun k => pw k.1.bs == (xs.drop 16).take 8) then .tuple #[.int .u32 0, .int .i64 N, .int .i64 0] else .tuple #[.int .u32 0, .int .i64 0, .int .i64 26]
theorem opOut_no {xs : List Int} {L : List AK} {now : Int} {N : Nat} (h : ∀ y : {k : AK // k ∈ L}, y ∈ takenTo L now L.length → (pw y.1.bs == (xs.drop 16).take 8) = false) : opOut xs L now N = .tuple #[.int .u32 0, .int .i64 0, .int .i64 26] := by
  unfold opOut
  rw [if_neg]
  intro h2
  obtain ⟨y, hy, h3⟩ := List.any_eq_true.1 h2
  rw [h y hy] at h3
  cases h3
theorem opOut_yes {xs : List Int} {L : List AK} {now : Int} {N : Nat} {pre : List {k : AK // k ∈ L}} (hp : pre <+: takenTo L now L.length) (h : ∃ y : {k : AK // k ∈ L}, y ∈ pre ∧ (pw y.1.bs == (xs.drop 16).take 8) = true) : opOut xs L now N = .tuple #[.int .u32 0, .int .i64 N, .int .i64 0] := by
  unfold opOut
  obtain ⟨y, hy, h3⟩ := h
  rw [if_pos (List.any_eq_true.2 ⟨y, hp.subset hy, h3⟩)]
theorem op_after {w W : World} {g D : Nat} {sl v6 v7 v8 : Value} (h : OB w W g sl v6 v7 v8) (hD : g + 1 + 1 + 1 < D) (hK : W.heap[D]? = some (.deferred (some []))) : OB w (W.putObj D (.deferred none)) g sl v6 v7 v8 :=
  OB.own (β := Unit) hD () W _ (some D) h (grownBy_putObj' _ D (.deferred none)) (fun r e => by cases e; exact ⟨Nat.le_refl _, _, hK, rfl⟩)
theorem op_results {w W : World} {g : Nat} {sl : Value} {x y z : Value} {ts : Array Value} (h : OB w W g sl x y z) (h6 : ts.getD 6 undef = .pointer (some ⟨g + 1, 0, none⟩)) (h7 : ts.getD 7 undef = .pointer (some ⟨g + 1 + 1, 0, none⟩)) (h8 : ts.getD 8 undef = .pointer (some ⟨g + 1 + 1 + 1, 0, none⟩)) :
    (results Try.f27 ts).run Try.prog W = .ok (.tuple #[x, y, z]) W := by
  have k1 := h.b1.cell 0; have k2 := h.b2.cell 0; have k3 := h.b3.cell 0
  simp only [List.getElem?_toArray, List.getElem?_cons_zero] at k1 k2 k3
  simp only [Array.getD_eq_getD_getElem?] at h6 h7 h8
  simp [results, Try.f27, go_sem, h6, h7, h8, k1, k2, k3]
theorem arr8_eqA (xs ys : List Int) (hx : xs.length = 8) (hy : ys.length = 8) (w : World) : (binOp .eql 34 (.agg (u8s xs).toArray) (.agg (u8s ys).toArray)).run Try.prog w = .ok (.bool (xs == ys)) w :=
  run_eql_ints (P := Try.prog) w 34 5 8 .u8 Try.underlying34 Try.underlying5 (fun _ => by kernel_rfl) xs ys hx hy
theorem take8 {zs : List Int} {y0 y1 y2 y3 y4 y5 y6 y7 : Int} (h0 : zs[0]? = some y0) (h1 : zs[1]? = some y1) (h2 : zs[2]? = some y2) (h3 : zs[3]? = some y3) (h4 : zs[4]? = some y4) (h5 : zs[5]? = some y5) (h6 : zs[6]? = some y6) (h7 : zs[7]? = some y7) :
    zs.take 8 = [y0, y1, y2, y3, y4, y5, y6, y7] := by
  rcases zs with _ | ⟨a0, _ | ⟨a1, _ | ⟨a2, _ | ⟨a3, _ | ⟨a4, _ | ⟨a5, _ | ⟨a6, _ | ⟨a7, r⟩⟩⟩⟩⟩⟩⟩⟩ <;> simp at h0 h1 h2 h3 h4 h5 h6 h7
  subst h0 h1 h2 h3 h4 h5 h6 h7
  rfl
theorem data1 {w W : World} {g n k : Nat} {xa : Addr} {xs : List Int} {y : Int} (hx : Reads w g 1 (some xa) n (u8s xs)) (hy : xs[16 + k]? = some y) (h : Below g w W) : W.cell? ⟨xa.block, xa.off + 16 + k, none⟩ = some (.int .u8 y) := by
  have hn : 16 + k < n := by have := hx.u8len; have := (List.getElem?_eq_some_iff.1 hy).1; omega
  obtain ⟨a, u, e, _, hu, hc⟩ := (hx.below h).u8atc (k := 16 + k) hn (by omega)
  injection e with e; subst e
  have : some u = some y := hu.out.symm.trans hy
  injection this with this; subst this
  rw [Nat.add_assoc]
  exact hc
theorem data8 {w : World} {g n : Nat} {xa : Addr} {xs : List Int} (hx : Reads w g 1 (some xa) n (u8s xs)) (hn : 24 ≤ n) : ∃ y0 y1 y2 y3 y4 y5 y6 y7 : Int, (xs.drop 16).take 8 = [y0, y1, y2, y3, y4, y5, y6, y7] ∧ ∀ W : World, Below g w W →
    W.cell? ⟨xa.block, xa.off + 16, none⟩ = some (.int .u8 y0) ∧ W.cell? ⟨xa.block, xa.off + 16 + 1, none⟩ = some (.int .u8 y1) ∧ W.cell? ⟨xa.block, xa.off + 16 + 2, none⟩ = some (.int .u8 y2) ∧ W.cell? ⟨xa.block, xa.off + 16 + 3, none⟩ = some (.int .u8 y3) ∧
    W.cell? ⟨xa.block, xa.off + 16 + 4, none⟩ = some (.int .u8 y4) ∧ W.cell? ⟨xa.block, xa.off + 16 + 5, none⟩ = some (.int .u8 y5) ∧ W.cell? ⟨xa.block, xa.off + 16 + 6, none⟩ = some (.int .u8 y6) ∧ W.cell? ⟨xa.block, xa.off + 16 + 7, none⟩ = some (.int .u8 y7) := by
  have hl := hx.u8len
  have ex : ∀ k, k < 8 → ∃ y, xs[16 + k]? = some y := fun k hk => ⟨_, List.getElem?_eq_getElem (by omega)⟩
  obtain ⟨y0, h0⟩ := ex 0 (by decide); obtain ⟨y1, h1⟩ := ex 1 (by decide); obtain ⟨y2, h2⟩ := ex 2 (by decide); obtain ⟨y3, h3⟩ := ex 3 (by decide)
  obtain ⟨y4, h4⟩ := ex 4 (by decide); obtain ⟨y5, h5⟩ := ex 5 (by decide); obtain ⟨y6, h6⟩ := ex 6 (by decide); obtain ⟨y7, h7⟩ := ex 7 (by decide)
  have D : ∀ k y, xs[16 + k]? = some y → (xs.drop 16)[k]? = some y := fun k y h => by rw [List.getElem?_drop]; exact h
  exact ⟨y0, y1, y2, y3, y4, y5, y6, y7, take8 (D 0 _ h0) (D 1 _ h1) (D 2 _ h2) (D 3 _ h3) (D 4 _ h4) (D 5 _ h5) (D 6 _ h6) (D 7 _ h7), fun W hW =>
    ⟨data1 hx h0 hW, data1 hx h1 hW, data1 hx h2 hW, data1 hx h3 hW, data1 hx h4 hW, data1 hx h5 hW, data1 hx h6 hW, data1 hx h7 hW⟩⟩
theorem OB.drew {w W : World} {g : Nat} {sl v6 v7 v8 : Value} (h : OB w W g sl v6 v7 v8) : OB w W.drew g sl v6 v7 v8 := ⟨h.b0, h.b1, h.b2, h.b3, h.bel.drew⟩
@[reducible] def opT (A : Option Addr) (n c m kc N g B1 : Nat) (kad : Addr) (now : Int) {L : List AK} (x : {k : AK // k ∈ L}) (Bx : Nat) : Array Value := #[.slice A n c, .slice (some kad) m kc, .int .i64 now, .pointer (some ⟨g, 0, none⟩), undef, undef, .pointer (some ⟨g + 1, 0, none⟩), .pointer (some ⟨g + 1 + 1, 0, none⟩), .pointer (some ⟨g + 1 + 1 + 1, 0, none⟩), .int .u16 1, .int .i64 0, .int .i64 0, .int .i64 0, .pointer (some ⟨Bx, 0, none⟩), .tuple #[.int .i64 (N : Int), .int .i64 0], .slice A n c, .tuple #[.int .i64 (N : Int), .int .i64 0], .int .i64 (N : Int), .int .i64 0, .int .i64 0, .bool false, undef, .slice (some kad) m kc, .int .i64 (m : Int), .bool true, .tuple #[.int .i64 0, .int .i64 0], .slice (some kad) m kc, .tuple #[.int .i64 0, .int .i64 0], .int .i64 0, .int .i64 0, .int .i64 0, .bool false, .slice (some kad) m kc, .pointer (some kad), .pointer (some ⟨kad.block, kad.off + 1, none⟩), .int .u16 1, .slice A n c, .int .u16 1, .int .u16 1, .bool false, .int .u16 1, .bool false, undef, undef, undef, undef, undef, undef, undef, undef, .slice A n c, .int .i64 (N : Int), .int .i64 0, .int .i64 0, .bool false, undef, .int .u16 1, .bool false, undef, .slice (some kad) m kc, .int .i64 now, .func (.func 95) #[] #[.pointer (some ⟨B1, 0, none⟩), .pointer (some ⟨B1 + 1, 0, none⟩)], x.1.v, undef, undef, undef, undef, undef, undef, undef, undef]
set_option maxRecDepth 100000 in
set_option maxHeartbeats 4000000 in
theorem open_plain (A KA : Option Addr) (n c m kc N : Nat) (xs : List Int) (L : List AK) (now : Int) (w : World) (hx : Reads w w.heap.size 1 A n (u8s xs)) (ho : Oct xs) (hc : n ≤ c) (hm : c ≤ 9223372036854775807) (hn : n ≤ 1099511627776)
    (hL : Keys w KA m L) (hkc : m ≤ kc) (hkm : kc ≤ 9223372036854775807) (h0 : 0 < m) (hp : pkLen xs = ((N : Int), 0)) (hck : checkOf L = (0, 0)) (hkd : kind0 L = 1) (hpk : pkKind xs = 1) (hwh : wholeOf xs N = 0) :
    Calls Try.prog 27 #[.slice A n c, .slice KA m kc, .int .i64 now] w fun e w' =>
      e = .returned (opOut xs L now N) ∧ Below w.heap.size w w' := by
  have HX := Lib.hid hx
  have HO := Lib.hid ho
  have HL := Lib.hid hL
  have hl := hx.u8len
  obtain ⟨h24, hNn⟩ := pkLen_ok (xs := xs) (by rw [hp])
  rw [hp] at h24 hNn
  simp only at h24 hNn
  have HLen : Hid (∀ W : World, Below w.heap.size w W → Calls Try.prog 15 #[.slice A n c] W fun e w' => PkAt W w' ((N : Int), 0) e) := fun W hb => by
    have := length_any A n c xs W W.heap.size (hx.later hb) ho hc hm
    rwa [hp] at this
  have HCk : Hid (∀ W : World, Below w.heap.size w W → Calls Try.prog 25 #[.slice KA m kc] W fun e w' => CkAt W w' (0, 0) e) := fun W hb => by
    have := check_any KA m kc L W (hL.later hb) hkc (by omega)
    rwa [hck] at this
  have HKd : Hid (∀ W : World, Below w.heap.size w W → Calls Try.prog 71 #[.slice A n c] W fun e w' => e = .returned (.int .u16 1) ∧ ∃ k, w' = W.drewN k) := fun W hb => by
    have := kind_any A n c xs W W.heap.size (hx.later hb) ho (by omega) hc hm
    rwa [hpk] at this
  have HWh : Hid (∀ W : World, Below w.heap.size w W → Calls Try.prog 72 #[.slice A n c, .int .i64 N] W fun e w' => e = .returned (.int .i64 0) ∧ Below W.heap.size W w') := fun W hb => by
    have := awhole_any A n c xs N W (hx.later hb) ho hc hm hn
    rwa [hwh] at this
  obtain ⟨kad, rfl⟩ : ∃ ad, KA = some ad := by obtain ⟨ad, e, _⟩ := hL.row.2 (by omega); exact ⟨ad, e⟩
  have HF1 : Hid (∀ W : World, Below w.heap.size w W → W.cell? ⟨kad.block, kad.off + 1, none⟩ = some (.int .u16 1)) := fun W hb => by
    have := (hL.later hb).first h0
    rwa [hkd] at this
  clear hx ho hL hp hck hkd hpk hwh
  have H4 := Lib.hid (four_new w (.slice A n c))
  refine (callsIn_wide (n := 6)).1 (callsIn_of_wp_marks Try.func27 rfl trivial ?_ rfl)
  simp only [Try.ntmps27, List.size_toArray, List.length_cons, List.length_nil, Nat.reduceAdd, Nat.reduceSub, Array.replicate_succ, Array.replicate_zero, List.push_toArray, List.append_toArray, List.nil_append, List.cons_append]
  refine wpIn_wide.2 ?_
  go_wp2_with fail
  generalize (((w.alloc (.cells #[.slice A n c] 39)).alloc (.cells #[.int .u32 0] 22)).alloc (.cells #[.int .i64 0] 3)).alloc (.cells #[.int .i64 0] 40) = w0 at *
  generalize hs0 : w.heap.size = g at *
  refine (HLen.out w0 H4.out.bel).mono ?_
  rintro e w1 ⟨rfl, d, rfl⟩
  have k0 := H4.out.b0.cell 0; have k2 := H4.out.b2.cell 0; have k3 := H4.out.b3.cell 0; have f2 := H4.out.b2.frozen 0; have f3 := H4.out.b3.frozen 0
  simp only [List.getElem?_toArray, List.getElem?_cons_zero] at k0 k2 k3
  have H5 := Lib.hid (((H4.out.drewN d).set7 (.int .i64 N)).set8 (.int .i64 0))
  clear H4 HLen
  go_wp2_with fail
  generalize ((w0.drewN d).setCell ⟨g + 1 + 1, 0, none⟩ (.int .i64 N)).setCell ⟨g + 1 + 1 + 1, 0, none⟩ (.int .i64 0) = w2 at *
  clear k0 k2 k3 f2 f3
  refine (HCk.out w2 H5.out.bel).mono ?_
  rintro e w3 ⟨rfl, hb⟩
  have H6 := Lib.hid (H5.out.later hb)
  clear hb H5 HCk
  have k0 := H6.out.b0.cell 0; have q1 := HF1.out w3 H6.out.bel
  simp only [List.getElem?_toArray, List.getElem?_cons_zero] at k0
  go_wp2_with fail
  refine (HKd.out w3 H6.out.bel).mono ?_
  rintro e w4 ⟨rfl, d4, hw4⟩
  have H7 := Lib.hid (H6.out.drewN d4)
  rw [← hw4] at H7
  clear H6 HKd HF1 k0 q1 hw4
  have k0 := H7.out.b0.cell 0; have k2 := H7.out.b2.cell 0
  simp only [List.getElem?_toArray, List.getElem?_cons_zero] at k0 k2
  go_wp2_with fail
  refine (HWh.out w4 H7.out.bel).mono ?_
  rintro e w5 ⟨rfl, hb⟩
  have H8 := Lib.hid (H7.out.later hb)
  clear hb H7 HWh k0 k2
  go_wp2_with fail
  refine (taken_any (some kad) m kc now w5).mono ?_
  rintro e w6 ⟨rfl, rfl⟩
  go_wp2_with fail
  have HB1 : Hid (((w5.alloc (.cells #[.slice (some kad) m kc] 61)).alloc (.cells #[.int .i64 now] 3)).cell? ⟨w5.heap.size, 0, none⟩ = some (.slice (some kad) m kc) ∧ ((w5.alloc (.cells #[.slice (some kad) m kc] 61)).alloc (.cells #[.int .i64 now] 3)).cell? ⟨w5.heap.size + 1, 0, none⟩ = some (.int .i64 now) ∧
      ((w5.alloc (.cells #[.slice (some kad) m kc] 61)).alloc (.cells #[.int .i64 now] 3)).heap.size = w5.heap.size + 2 ∧ OB w ((w5.alloc (.cells #[.slice (some kad) m kc] 61)).alloc (.cells #[.int .i64 now] 3)) g (.slice A n c) (.int .u32 0) (.int .i64 N) (.int .i64 0) ∧ g + 1 + 1 + 1 < w5.heap.size) := by
    have h1 : Blk ((w5.alloc (.cells #[.slice (some kad) m kc] 61)).alloc (.cells #[.int .i64 now] 3)) w5.heap.size 61 #[.slice (some kad) m kc] := (Blk.new _ _ _).alloc _
    have h2 : Blk ((w5.alloc (.cells #[.slice (some kad) m kc] 61)).alloc (.cells #[.int .i64 now] 3)) (w5.heap.size + 1) 3 #[.int .i64 now] := new_at _ _ _
    exact ⟨h1.cell 0, h2.cell 0, by rw [World.size_alloc, World.size_alloc], H8.out.later (below_two_ _ _ _), H8.out.b3.lt⟩
  generalize (w5.alloc (.cells #[.slice (some kad) m kc] 61)).alloc (.cells #[.int .i64 now] 3) = w7 at *
  clear H8
  generalize w5.heap.size = B1 at *
  refine (wpIn_wide (n := 6)).1 ?_
  refine wpIn_rangeFunc_ownH (α := {k : AK // k ∈ L}) rfl (by decide) (gf := 95) (lb := #[.pointer (some ⟨B1, 0, none⟩), .pointer (some ⟨B1 + 1, 0, none⟩)]) rfl trivial (enters_of Try.func95 (by kernel_rfl) rfl)
    (encs := fun x => #[x.1.v]) (Kp := Below w7.heap.size) (S := fun ys => ys = takenTo L now L.length) (Sp := fun pre => pre <+: takenTo L now L.length) (N := L.length) (w0 := w7)
    (fun l J Jx W hW hJ _ hY h0 => taken1_in Fence.wide 5 trivial rfl (by decide) l B1 (B1 + 1) w7.heap.size (some kad) m kc L now (by omega) HL.out.len J Jx W hJ hY hW.size (by have := HB1.out.2.2.1; omega) (by have := HB1.out.2.2.1; omega)
      ((hW.cell (p := ⟨B1, 0, none⟩) (by have := HB1.out.2.2.1; show B1 < _; omega)).trans HB1.out.1) ((hW.cell (p := ⟨B1 + 1, 0, none⟩) (by have := HB1.out.2.2.1; show B1 + 1 < _; omega)).trans HB1.out.2.1)
      ((HL.out.later (hs0 ▸ HB1.out.2.2.2.1.bel)).row.below hW) h0)
    belowK_t (belowK_b (Nat.le_refl _)) (Below.refl _ _) (fun _ => rfl)
    (fun pre W => (∀ y : {k : AK // k ∈ L}, y ∈ pre → (pw y.1.bs == (xs.drop 16).take 8) = false) ∧ OB w W g (.slice A n c) (.int .u32 0) (.int .i64 N) (.int .i64 0) ∧ w7.heap.size ≤ W.heap.size)
    (fun cd pre W => (cd = .ret ∧ ∃ y : {k : AK // k ∈ L}, y ∈ pre ∧ (pw y.1.bs == (xs.drop 16).take 8) = true) ∧ OB w W g (.slice A n c) (.int .u32 0) (.int .i64 N) (.int .i64 0))
    (OwnFrom.and (ownFrom_pure _ _) (OwnFrom.and (OB.own (by have := HB1.out.2.2; omega)) (fun _ _ _ _ h hg _ => Nat.le_trans h hg.size)))
    (fun cd => OwnFrom.and (ownFrom_pure _ (fun (pre : List {k : AK // k ∈ L}) => cd = .ret ∧ ∃ y : {k : AK // k ∈ L}, y ∈ pre ∧ (pw y.1.bs == (xs.drop 16).take 8) = true)) (OB.own (by have := HB1.out.2.2; omega)))
    ⟨by simp, HB1.out.2.2.2.1, Nat.le_refl _⟩
    (fun x a' W => ∃ Bx, w7.heap.size ≤ Bx ∧ Blk W Bx 59 x.1.cells.toArray ∧ a' = { tmps := opT A n c m kc N g B1 kad now x Bx, defers := [] })
    (fun x a' s W W' row h hg hr => by
      obtain ⟨Bx, h1, h2, h3⟩ := h
      exact ⟨Bx, h1, blk_own (β := Unit) () W W' row h2 hg hr, h3⟩)
    ?assign ?body ?done ?stop
  case assign =>
    intro l pre x W K hI hK
    obtain ⟨⟨id, kind, S, sn, sc, sf, su, tf, tu, bs⟩, hxL⟩ := x
    have hB : Below W.heap.size W (W.alloc (.cells #[.int .u8 id, .int .u16 kind, .slice S sn sc, .int .i64 sf, .int .i64 su, .int .i64 tf, .int .i64 tu] 59)) := (Below.refl _ _).alloc (Nat.le_refl _) _
    gi_wp2
    exact hK _ _ (KeepsFrom.of_below hB) (hB.mono hI.2.2) ⟨hI.1, hI.2.1.later hB, Nat.le_trans hI.2.2 hB.size⟩ ⟨W.heap.size, hI.2.2, Blk.new _ _ _, rfl⟩
  case body =>
    rintro l pre x a' W hlw ⟨r, hr⟩ ⟨hno, hOB, hsz⟩ ⟨Bx, hBx, bX, rfl⟩ hlt
    obtain ⟨⟨id, kind, S, sn, sc, sf, su, tf, tu, bs⟩, hxL⟩ := x
    have HOB := Lib.hid hOB
    have HBX : Hid (Blk W Bx 59 #[.int .u8 id, .int .u16 kind, .slice S sn sc, .int .i64 sf, .int .i64 su, .int .i64 tf, .int .i64 tu]) := bX
    clear hOB bX
    have j0 := HBX.out.cell 0; have j1 := HBX.out.cell 1; have j2 := HBX.out.cell 2; have j3 := HBX.out.cell 3; have j4 := HBX.out.cell 4; have j5 := HBX.out.cell 5; have j6 := HBX.out.cell 6
    have k0 := HOB.out.b0.cell 0
    simp only [List.getElem?_toArray, List.getElem?_cons_zero, List.getElem?_cons_succ] at j0 j1 j2 j3 j4 j5 j6 k0
    have HPW : Hid (∀ V : World, Below g w V → Calls Try.prog 75 #[AK.v ⟨id, kind, S, sn, sc, sf, su, tf, tu, bs⟩] V fun e w' => e = .returned (.agg (u8s (pw bs)).toArray) ∧ Below V.heap.size V w') :=
      fun V hV => password_any ⟨id, kind, S, sn, sc, sf, su, tf, tu, bs⟩ V ((HL.out.later (hs0 ▸ hV)).ok _ hxL)
    obtain ⟨xa, rfl⟩ : ∃ xa, A = some xa := by obtain ⟨xa, e, _⟩ := HX.out.2 (by omega); exact ⟨xa, e⟩
    obtain ⟨y0, y1, y2, y3, y4, y5, y6, y7, hE, hdt⟩ := data8 HX.out (by omega)
    have HDt := Lib.hid hdt
    clear hdt
    obtain ⟨p0, p1, p2, p3, p4, p5, p6, p7⟩ := HDt.out W HOB.out.bel
    have hEq : ∀ V : World, (binOp .eql 34 (.agg (u8s (pw bs)).toArray) (.agg #[.int .u8 y0, .int .u8 y1, .int .u8 y2, .int .u8 y3, .int .u8 y4, .int .u8 y5, .int .u8 y6, .int .u8 y7])).run Try.prog V = .ok (.bool (pw bs == (xs.drop 16).take 8)) V := fun V => by
      rw [hE]
      exact arr8_eqA (pw bs) [y0, y1, y2, y3, y4, y5, y6, y7] (pw_length bs) rfl V
    have hd : 1 ≤ 6 - 1 - 1 := by omega
    have hAt : ∀ V : World, (Instr.arrayAt 34 (.slice (some ⟨xa.block, xa.off + 16, none⟩) 8 (c - 16))).run Try.prog V = .ok (.pointer (some ⟨xa.block, xa.off + 16, none⟩)) V := fun V => run_arrayAt (P := Try.prog) (w := V) 34 5 8 _ 8 (c - 16) Try.underlying34 (Nat.le_refl _)
    have hmx : Try.prog.follows .mixedOrders = true := by kernel_rfl
    have hnc : (24 : Int) ≤ (c : Int) := by omega
    cases heq : (pw bs == (xs.drop 16).take 8)
    · rw [heq] at hEq
      gi_wp2
      gi_region_with_o (refine ⟨trivial, ?_⟩; gi_at_call 75; refine (CallsIn.inRound l (callsIn_wide.2 (HPW.out _ HOB.out.bel.drew))).mono ?_; rintro e V ⟨rfl, hb⟩; have HV := Lib.hid (below_drew_left hb); have HOV := Lib.hid (HOB.out.later HV.out); clear hb; have k0 := HOV.out.b0.cell 0; have k1 := HOV.out.b1.cell 0; have k2 := HOV.out.b2.cell 0; have k3 := HOV.out.b3.cell 0; have f1 := HOV.out.b1.frozen 0; have f2 := HOV.out.b2.frozen 0; have f3 := HOV.out.b3.frozen 0; simp only [List.getElem?_toArray, List.getElem?_cons_zero] at k0 k1 k2 k3; obtain ⟨q0, q1, q2, q3, q4, q5, q6, q7⟩ := HDt.out V HOV.out.bel)
      all_goals gi_wp2
      all_goals exact ⟨KeepsFrom.of_below HV.out, HV.out.mono hsz, fun y hy => by
        rcases List.mem_append.1 hy with h | h
        · exact hno y h
        · simp at h; subst h; exact heq, HOV.out, Nat.le_trans hsz HV.out.size⟩
    · rw [heq] at hEq
      gi_wp2
      gi_region_with_o (refine ⟨trivial, ?_⟩; gi_at_call 75; refine (CallsIn.inRound l (callsIn_wide.2 (HPW.out _ HOB.out.bel.drew))).mono ?_; rintro e V ⟨rfl, hb⟩; have HV := Lib.hid (below_drew_left hb); have HOV := Lib.hid (HOB.out.later HV.out); clear hb; have k0 := HOV.out.b0.cell 0; have k1 := HOV.out.b1.cell 0; have k2 := HOV.out.b2.cell 0; have k3 := HOV.out.b3.cell 0; have f1 := HOV.out.b1.frozen 0; have f2 := HOV.out.b2.frozen 0; have f3 := HOV.out.b3.frozen 0; simp only [List.getElem?_toArray, List.getElem?_cons_zero] at k0 k1 k2 k3; obtain ⟨q0, q1, q2, q3, q4, q5, q6, q7⟩ := HDt.out V HOV.out.bel)
      all_goals gi_wp2
      all_goals gi_region_with_o (fail)
      all_goals gi_wp2
      all_goals exact ⟨(KeepsFrom.of_below HV.out).trans (((KeepsOthers.drew _).trans ((KeepsOthers.setCell _ _ _).trans ((KeepsOthers.setCell _ _ _).trans (KeepsOthers.setCell _ _ _)))).from _), ⟨rfl, _, List.mem_append.2 (.inr (List.mem_singleton.2 rfl)), heq⟩, ((HOV.out.drew.set6 (.int .u32 0)).set7 (.int .i64 N)).set8 (.int .i64 0)⟩
  case done =>
    rintro D ys W hD rfl ⟨hno, hOB, hsz⟩ hK
    have HOB := Lib.hid hOB
    have HO3 := Lib.hid (((hOB.set6 (.int .u32 0)).set7 (.int .i64 0)).set8 (.int .i64 26))
    have HK3 : Hid ((((W.setCell ⟨g + 1, 0, none⟩ (.int .u32 0)).setCell ⟨g + 1 + 1, 0, none⟩ (.int .i64 0)).setCell ⟨g + 1 + 1 + 1, 0, none⟩ (.int .i64 26)).heap[D]? = some (.deferred (some []))) :=
      (KeepsOthers.setCell _ _ _).same D _ ((KeepsOthers.setCell _ _ _).same D _ ((KeepsOthers.setCell _ _ _).same D _ hK rfl) rfl) rfl
    have hout : Hid (opOut xs L now N = .tuple #[.int .u32 0, .int .i64 0, .int .i64 26]) := opOut_no hno
    have k1 := hOB.b1.cell 0; have k2 := hOB.b2.cell 0; have k3 := hOB.b3.cell 0; have f1 := hOB.b1.frozen 0; have f2 := hOB.b2.frozen 0; have f3 := hOB.b3.frozen 0
    simp only [List.getElem?_toArray, List.getElem?_cons_zero] at k1 k2 k3
    clear hOB hno hK
    go_wp2
    generalize ((W.setCell ⟨g + 1, 0, none⟩ (.int .u32 0)).setCell ⟨g + 1 + 1, 0, none⟩ (.int .i64 0)).setCell ⟨g + 1 + 1 + 1, 0, none⟩ (.int .i64 26) = W3 at *
    refine ⟨by simp, .inl ⟨_, _, rfl, run_takeDeferred HK3.out, ?_⟩⟩
    have HP := op_after HO3.out (by have := HB1.out.2.2; omega) HK3.out
    exact ⟨_, op_results HP rfl rfl rfl, by rw [hout.out], by rw [hs0]; exact HP.bel⟩
  case stop =>
    rintro D cd pre W hD hpre ⟨⟨rfl, hex⟩, hOB⟩ hK
    refine wpIn_wide.2 ?_
    have hout : Hid (opOut xs L now N = .tuple #[.int .u32 0, .int .i64 N, .int .i64 0]) := opOut_yes hpre hex
    go_wp2
    refine ⟨by simp, .inl ⟨_, _, rfl, run_takeDeferred hK, ?_⟩⟩
    have HP := op_after hOB (by have := HB1.out.2.2; omega) hK
    exact ⟨_, op_results HP rfl rfl rfl, by rw [hout.out], by rw [hs0]; exact HP.bel⟩
end Go.Proofs.Ytbkejlalbjomkaa
