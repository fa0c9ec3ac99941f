/-
  auth.openDigest, walked.
-/
import Derived.Test.YtkgdeneonobibaaAutR4
import Derived.Test.YtkgdeneonobibaaAut12
import Derived.Deep.Cut
import Derived.Test.YtkgdeneonobibaaRin
namespace Go.Proofs.Ytkgdeneonobibaa
set_option linter.unusedVariables false
open Go.RowKit Go.Shelf
attribute [local go_sem] Oper.semAt_some

/-- The six boxes of openDigest. -/
structure DB (w W : World) (g : Nat) (sl nn r0 r1 r2 dt : Value) : Prop where
  b0 : Blk W g 32 #[sl]
  b1 : Blk W (g + 1) 3 #[nn]
  b2 : Blk W (g + 1 + 1) 34 #[r0]
  b3 : Blk W (g + 1 + 1 + 1) 3 #[r1]
  b4 : Blk W (g + 1 + 1 + 1 + 1) 26 #[r2]
  b5 : Blk W (g + 1 + 1 + 1 + 1 + 1) 32 #[dt]
  bel : Below g w W
section
variable {w W W' : World} {g : Nat} {sl nn r0 r1 r2 dt : Value}
theorem DB.later (h : DB w W g sl nn r0 r1 r2 dt) (hb : Below W.heap.size W W') : DB w W' g sl nn r0 r1 r2 dt :=
  ⟨h.b0.later hb, h.b1.later hb, h.b2.later hb, h.b3.later hb, h.b4.later hb, h.b5.later hb, h.bel.trans (hb.mono (Nat.le_of_lt h.b0.lt))⟩
theorem DB.drew (h : DB w W g sl nn r0 r1 r2 dt) : DB w W.drew g sl nn r0 r1 r2 dt := ⟨h.b0, h.b1, h.b2, h.b3, h.b4, h.b5, h.bel.drew⟩
theorem DB.drewN (h : DB w W g sl nn r0 r1 r2 dt) (d : Nat) : DB w (W.drewN d) g sl nn r0 r1 r2 dt := ⟨h.b0, h.b1, h.b2, h.b3, h.b4, h.b5, below_drewN h.bel d⟩
theorem DB.set2 (h : DB w W g sl nn r0 r1 r2 dt) (u : Value) : DB w (W.setCell ⟨g + 1 + 1, 0, none⟩ u) g sl nn u r1 r2 dt :=
  ⟨h.b0.far (p := ⟨g + 1 + 1, 0, none⟩) (by simp <;> omega) _, h.b1.far (p := ⟨g + 1 + 1, 0, none⟩) (by simp) _, h.b2.set_ 0 u, h.b3.far (p := ⟨g + 1 + 1, 0, none⟩) (by simp) _, h.b4.far (p := ⟨g + 1 + 1, 0, none⟩) (by simp <;> omega) _, h.b5.far (p := ⟨g + 1 + 1, 0, none⟩) (by simp <;> omega) _, h.bel.setCell (p := ⟨g + 1 + 1, 0, none⟩) (by simp <;> omega) _⟩
theorem DB.set3 (h : DB w W g sl nn r0 r1 r2 dt) (u : Value) : DB w (W.setCell ⟨g + 1 + 1 + 1, 0, none⟩ u) g sl nn r0 u r2 dt :=
  ⟨h.b0.far (p := ⟨g + 1 + 1 + 1, 0, none⟩) (by simp <;> omega) _, h.b1.far (p := ⟨g + 1 + 1 + 1, 0, none⟩) (by simp <;> omega) _, h.b2.far (p := ⟨g + 1 + 1 + 1, 0, none⟩) (by simp) _, h.b3.set_ 0 u, h.b4.far (p := ⟨g + 1 + 1 + 1, 0, none⟩) (by simp) _, h.b5.far (p := ⟨g + 1 + 1 + 1, 0, none⟩) (by simp <;> omega) _, h.bel.setCell (p := ⟨g + 1 + 1 + 1, 0, none⟩) (by simp <;> omega) _⟩
theorem DB.set4 (h : DB w W g sl nn r0 r1 r2 dt) (u : Value) : DB w (W.setCell ⟨g + 1 + 1 + 1 + 1, 0, none⟩ u) g sl nn r0 r1 u dt :=
  ⟨h.b0.far (p := ⟨g + 1 + 1 + 1 + 1, 0, none⟩) (by simp <;> omega) _, h.b1.far (p := ⟨g + 1 + 1 + 1 + 1, 0, none⟩) (by simp <;> omega) _, h.b2.far (p := ⟨g + 1 + 1 + 1 + 1, 0, none⟩) (by simp <;> omega) _, h.b3.far (p := ⟨g + 1 + 1 + 1 + 1, 0, none⟩) (by simp) _, h.b4.set_ 0 u, h.b5.far (p := ⟨g + 1 + 1 + 1 + 1, 0, none⟩) (by simp) _, h.bel.setCell (p := ⟨g + 1 + 1 + 1 + 1, 0, none⟩) (by simp <;> omega) _⟩
end
theorem six_new (w : World) (sl nn dt : Value) : DB w ((((((w.alloc (.cells #[sl] 32)).alloc (.cells #[nn] 3)).alloc (.cells #[.int .u32 0] 34)).alloc (.cells #[.int .i64 0] 3)).alloc (.cells #[.int .i64 0] 26)).alloc (.cells #[dt] 32)) w.heap.size sl nn (.int .u32 0) (.int .i64 0) (.int .i64 0) dt := by
  have h1 := Blk.new (w.alloc (.cells #[sl] 32)) 3 #[nn]
  have h2 := Blk.new ((w.alloc (.cells #[sl] 32)).alloc (.cells #[nn] 3)) 34 #[.int .u32 0]
  have h3 := Blk.new (((w.alloc (.cells #[sl] 32)).alloc (.cells #[nn] 3)).alloc (.cells #[.int .u32 0] 34)) 3 #[.int .i64 0]
  have h4 := Blk.new ((((w.alloc (.cells #[sl] 32)).alloc (.cells #[nn] 3)).alloc (.cells #[.int .u32 0] 34)).alloc (.cells #[.int .i64 0] 3)) 26 #[.int .i64 0]
  have h5 := Blk.new (((((w.alloc (.cells #[sl] 32)).alloc (.cells #[nn] 3)).alloc (.cells #[.int .u32 0] 34)).alloc (.cells #[.int .i64 0] 3)).alloc (.cells #[.int .i64 0] 26)) 32 #[dt]
  simp only [World.size_alloc] at h1 h2 h3 h4 h5
  refine ⟨(((((Blk.new _ _ _).alloc _).alloc _).alloc _).alloc _).alloc _, (((h1.alloc _).alloc _).alloc _).alloc _, ((h2.alloc _).alloc _).alloc _, (h3.alloc _).alloc _, h4.alloc _, h5, ?_⟩
  exact ((((((Below.refl _ _).alloc (Nat.le_refl _) _).alloc (by simp only [World.size_alloc]; omega) _).alloc (by simp only [World.size_alloc]; omega) _).alloc (by simp only [World.size_alloc]; omega) _).alloc (by simp only [World.size_alloc]; omega) _).alloc (by simp only [World.size_alloc]; omega) _
theorem DB.own {w : World} {g B : Nat} {sl nn r0 r1 r2 dt : Value} (hB : g + 1 + 1 + 1 + 1 + 1 < B) {β : Type} : OwnFrom B (fun (_ : β) W => DB w W g sl nn r0 r1 r2 dt) := by
  intro s W W' row h hg hr
  have ne : ∀ k, k < B → some k ≠ row := fun k hk e => by have := (hr k e.symm).1; omega
  refine ⟨h.b0.grown hg (ne _ (by omega)), h.b1.grown hg (ne _ (by omega)), h.b2.grown hg (ne _ (by omega)), h.b3.grown hg (ne _ (by omega)), h.b4.grown hg (ne _ (by omega)), h.b5.grown hg (ne _ hB), ?_⟩
  exact h.bel.grown hg (Nat.le_of_lt h.b0.lt) (fun k e => by have := (hr k e).1; omega)
theorem db_after {w W : World} {g D : Nat} {sl nn r0 r1 r2 dt : Value} (h : DB w W g sl nn r0 r1 r2 dt) (hD : g + 1 + 1 + 1 + 1 + 1 < D) (hK : W.heap[D]? = some (.deferred (some []))) : DB w (W.putObj D (.deferred none)) g sl nn r0 r1 r2 dt :=
  DB.own (β := Unit) hD () W _ (some D) h (grownBy_putObj' _ D (.deferred none)) (fun r e => by cases e; exact ⟨Nat.le_refl _, _, hK, rfl⟩)
theorem db_results {w W : World} {g : Nat} {sl nn x y z dt : Value} {ts : Array Value} (h : DB w W g sl nn x y z dt) (h6 : ts.getD 8 undef = .pointer (some ⟨g + 1 + 1, 0, none⟩)) (h7 : ts.getD 9 undef = .pointer (some ⟨g + 1 + 1 + 1, 0, none⟩)) (h8 : ts.getD 10 undef = .pointer (some ⟨g + 1 + 1 + 1 + 1, 0, none⟩)) :
    (results Try.f43 ts).run Try.prog W = .ok (.tuple #[x, y, z]) W := by
  have k1 := h.b2.cell 0; have k2 := h.b3.cell 0; have k3 := h.b4.cell 0
  simp only [List.getElem?_toArray, List.getElem?_cons_zero] at k1 k2 k3
  simp only [Array.getD_eq_getD_getElem?] at h6 h7 h8
  simp [results, Try.f43, go_sem, h6, h7, h8, k1, k2, k3]
theorem dat8 {w : World} {g n : Nat} {xa : Addr} {xs : List Int} (hx : Reads w g 1 (some xa) n (u8s xs)) (ho : Oct xs) (hn : 24 ≤ n) : ∃ y0 y1 y2 y3 y4 y5 y6 y7 : Int,
    Hid (xs.getD 16 0 = y0 ∧ xs.getD 17 0 = y1 ∧ xs.getD 18 0 = y2 ∧ xs.getD 19 0 = y3 ∧ xs.getD 20 0 = y4 ∧ xs.getD 21 0 = y5 ∧ xs.getD 22 0 = y6 ∧ xs.getD 23 0 = y7) ∧
    (0 ≤ y4 ∧ y4 ≤ 255 ∧ 0 ≤ y5 ∧ y5 ≤ 255 ∧ 0 ≤ y6 ∧ y6 ≤ 255 ∧ 0 ≤ y7 ∧ y7 ≤ 255) ∧ Hid (∀ W : World, Below g w W →
    W.cell? ⟨xa.block, xa.off + 16, none⟩ = some (.int .u8 y0) ∧ W.cell? ⟨xa.block, xa.off + 16 + 1, none⟩ = some (.int .u8 y1) ∧ W.cell? ⟨xa.block, xa.off + 16 + 2, none⟩ = some (.int .u8 y2) ∧ W.cell? ⟨xa.block, xa.off + 16 + 3, none⟩ = some (.int .u8 y3) ∧
    W.cell? ⟨xa.block, xa.off + 16 + 4, none⟩ = some (.int .u8 y4) ∧ W.cell? ⟨xa.block, xa.off + 16 + 5, none⟩ = some (.int .u8 y5) ∧ W.cell? ⟨xa.block, xa.off + 16 + 6, none⟩ = some (.int .u8 y6) ∧ W.cell? ⟨xa.block, xa.off + 16 + 7, none⟩ = some (.int .u8 y7)) := by
  obtain ⟨y0, y1, y2, y3, y4, y5, y6, y7, hE, hW⟩ := data8 hx hn
  have G : ∀ k y, k < 8 → [y0, y1, y2, y3, y4, y5, y6, y7][k]? = some y → xs[16 + k]? = some y := fun k y hk h => by
    rw [← hE, List.getElem?_take, if_pos hk, List.getElem?_drop] at h
    exact h
  have b := fun k y hk h => ho (16 + k) y (G k y hk h)
  have d := fun k y hk h => getD_of (G k y hk h)
  exact ⟨y0, y1, y2, y3, y4, y5, y6, y7, ⟨d 0 _ (by decide) rfl, d 1 _ (by decide) rfl, d 2 _ (by decide) rfl, d 3 _ (by decide) rfl, d 4 _ (by decide) rfl, d 5 _ (by decide) rfl, d 6 _ (by decide) rfl, d 7 _ (by decide) rfl⟩,
    ⟨(b 4 _ (by decide) rfl).1, (b 4 _ (by decide) rfl).2, (b 5 _ (by decide) rfl).1, (b 5 _ (by decide) rfl).2, (b 6 _ (by decide) rfl).1, (b 6 _ (by decide) rfl).2, (b 7 _ (by decide) rfl).1, (b 7 _ (by decide) rfl).2⟩, hW⟩
/-- What the rounds of openDigest read. -/
structure SS (w V : World) (g Bx : Nat) (key : Array Value) (sl nn dt : Value) : Prop where
  key : Blk V Bx 70 key
  b0 : Blk V g 32 #[sl]
  b1 : Blk V (g + 1) 3 #[nn]
  b5 : Blk V (g + 1 + 1 + 1 + 1 + 1) 32 #[dt]
  bel : Below g w V
theorem SS.later {w V V' : World} {g Bx : Nat} {key : Array Value} {sl nn dt : Value} (h : SS w V g Bx key sl nn dt) (hb : Below V.heap.size V V') : SS w V' g Bx key sl nn dt :=
  ⟨h.key.later hb, h.b0.later hb, h.b1.later hb, h.b5.later hb, h.bel.trans (hb.mono (Nat.le_of_lt h.b0.lt))⟩
theorem SS.of_db {w V : World} {g Bx : Nat} {key : Array Value} {sl nn r0 r1 r2 dt : Value} (h : DB w V g sl nn r0 r1 r2 dt) (hk : Blk V Bx 70 key) : SS w V g Bx key sl nn dt := ⟨hk, h.b0, h.b1, h.b5, h.bel⟩
theorem blk_set {V : World} {g q i : Nat} {t : TypeId} {cs : Array Value} (h : Blk V g t cs) (hne : g ≠ q) (u : Value) : Blk (V.setCell ⟨q, i, none⟩ u) g t cs := h.far (p := ⟨q, i, none⟩) hne u
/-- Does a key's digest open the packet? -/
def dgK (xs : List Int) (N : Nat) (k : AK) : Bool := (k.id == xs.getD 18 0) && decide (md (xs.take N ++ key16 k.bs) = xs.drop N)
/-- None of them opens the packet. -/
def NoK (xs : List Int) (N : Nat) {L : List AK} (pre : List {k : AK // k ∈ L}) : Prop := ∀ y : {k : AK // k ∈ L}, y ∈ pre → dgK xs N y.1 = false
theorem NoK.nil (xs : List Int) (N : Nat) (L : List AK) : NoK xs N ([] : List {k : AK // k ∈ L}) := fun y hy => by simp at hy
theorem NoK.next {xs : List Int} {N : Nat} {L : List AK} {pre : List {k : AK // k ∈ L}} {x : {k : AK // k ∈ L}} (h : NoK xs N pre) (hx : dgK xs N x.1 = false) : NoK xs N (pre ++ [x]) := fun y hy => by
  rcases List.mem_append.1 hy with h1 | h1
  · exact h y h1
  · rw [List.mem_singleton] at h1; subst h1; exact hx
@[reducible] def z16r : Array Value := #[.int .u8 0, .int .u8 0, .int .u8 0, .int .u8 0, .int .u8 0, .int .u8 0, .int .u8 0, .int .u8 0, .int .u8 0, .int .u8 0, .int .u8 0, .int .u8 0, .int .u8 0, .int .u8 0, .int .u8 0, .int .u8 0]
theorem md_oct (xs : List Int) : Oct (md xs) := fun i x hx => by
  have hi : i < 16 := by have := (List.getElem?_eq_some_iff.1 hx).1; rw [md_len] at this; exact this
  unfold md at hx
  rw [outOf_at hi] at hx
  injection hx with hx
  omega
theorem dg_no {xs : List Int} {N : Nat} {L : List AK} {now : Int} (h : ∀ y : {k : AK // k ∈ L}, y ∈ takenTo L now L.length → dgK xs N y.1 = false) : L.any (dgB xs N now) = false := by
  rw [List.any_eq_false]
  intro k hk hd
  unfold dgB at hd
  simp only [Bool.and_eq_true] at hd
  obtain ⟨h1, h2, h3⟩ := hd
  have hm : (⟨k, hk⟩ : {k : AK // k ∈ L}) ∈ takenTo L now L.length := by
    unfold takenTo
    rw [List.take_of_length_le (by simp)]
    exact List.mem_filter.2 ⟨List.mem_attach _ _, h2⟩
  have := h _ hm
  unfold dgK at this
  rw [h1, h3] at this
  cases this
theorem dg_yes {xs : List Int} {N : Nat} {L : List AK} {now : Int} {pre : List {k : AK // k ∈ L}} (hp : pre <+: takenTo L now L.length) (h : ∃ y : {k : AK // k ∈ L}, y ∈ pre ∧ dgK xs N y.1 = true) : L.any (dgB xs N now) = true := by
  obtain ⟨y, hy, hd⟩ := h
  have hm := hp.subset hy
  unfold takenTo at hm
  have ht := (List.mem_filter.1 hm).2
  unfold dgK at hd
  simp only [Bool.and_eq_true] at hd
  refine List.any_eq_true.2 ⟨y.1, y.2, ?_⟩
  unfold dgB
  rw [hd.1, hd.2, ht]
  rfl
@[reducible] def odT (a : Addr) (KA : Option Addr) (c m kc N g B1 : Nat) (now : Int) {L : List AK} (x : {k : AK // k ∈ L}) (Bx : Nat) : Array Value := #[.slice (some a) (N + 16) c, .int .i64 N, .slice KA m kc, .int .i64 now, .pointer (some ⟨g, 0, none⟩), .pointer (some ⟨g + 1, 0, none⟩), undef, undef, .pointer (some ⟨g + 1 + 1, 0, none⟩), .pointer (some ⟨g + 1 + 1 + 1, 0, none⟩), .pointer (some ⟨g + 1 + 1 + 1 + 1, 0, none⟩), .pointer (some ⟨g + 1 + 1 + 1 + 1 + 1, 0, none⟩), .pointer (some ⟨Bx, 0, none⟩), undef, .slice (some a) (N + 16) c, .slice (some ⟨a.block, a.off + 16, none⟩) 8 (c - 16), .bool false, .slice (some ⟨a.block, a.off + 16, none⟩) 8 (c - 16), .pointer (some ⟨a.block, a.off + 16, none⟩), .int .u8 0, .bool false, .bool false, .slice (some ⟨a.block, a.off + 16, none⟩) 8 (c - 16), .pointer (some ⟨a.block, a.off + 16 + 1, none⟩), .int .u8 0, .bool false, .bool false, .bool false, .slice (some ⟨a.block, a.off + 16, none⟩) 8 (c - 16), .pointer (some ⟨a.block, a.off + 16 + 3, none⟩), .int .u8 16, .bool false, .bool false, .bool false, .slice (some a) (N + 16) c, .int .i64 ((N : Int) + 16), .int .i64 N, .int .i64 ((N : Int) + 16), .bool false, .slice KA m kc, .int .i64 now, .func (.func 93) #[] #[.pointer (some ⟨B1, 0, none⟩), .pointer (some ⟨B1 + 1, 0, none⟩)], x.1.v, undef, undef, undef, undef, undef, undef, undef, undef, undef, undef, undef, undef, undef, undef, undef, undef, undef, undef, undef, undef, undef, undef, undef, undef, undef, undef, undef, undef, undef, undef, undef, undef, undef, undef, undef, undef, undef, undef, undef, undef]
set_option maxRecDepth 100000 in
set_option maxHeartbeats 4000000 in
theorem odig_any (A KA : Option Addr) (n c m kc N : Nat) (xs : List Int) (L : List AK) (now : Int) (w : World) (hx : Reads w w.heap.size 1 A n (u8s xs)) (ho : Oct xs) (hc : n ≤ c) (hm : c ≤ 9223372036854775807) (hn : n ≤ 1099511627000)
    (hL : Keys w KA m L) (hkc : m ≤ kc) (hkm : kc ≤ 9223372036854775807) (h24 : 24 ≤ N) (hNn : N ≤ n) :
    Calls Try.prog 43 #[.slice A n c, .int .i64 N, .slice KA m kc, .int .i64 now] w fun e w' => DgAt w w' (digOf xs N L now) e := by
  have hl := hx.u8len
  obtain ⟨a, rfl⟩ : ∃ ad, A = some ad := by obtain ⟨ad, e, _⟩ := hx.2 (by omega); exact ⟨ad, e⟩
  obtain ⟨y0, y1, y2, y3, y4, y5, y6, y7, HG, ⟨o4, p4, o5, p5, o6, p6, o7, p7⟩, HY⟩ := dat8 hx ho (by omega)
  have hp : Hid (digOf xs N L now = (if y0 ≠ 0 ∨ y1 ≠ 0 ∨ y3 ≠ 16 then ((0, 0, 24) : Int × Int × Int) else if n ≠ N + 16 then (0, 0, 22) else if L.any (dgB xs N now) then (seqOf xs, (N : Int), 0) else (0, 0, 26))) := by
    show _ = _
    unfold digOf
    obtain ⟨g0, g1, g2, g3, _⟩ := HG.out
    rw [g0, g1, g3, hl]
  have H6 := Lib.hid (six_new w (.slice (some a) n c) (.int .i64 N) (.slice (some ⟨a.block, a.off + 16, none⟩) 8 (c - 16)))
  have l24 : (24 : Int) ≤ (c : Int) := by omega
  have HX := Lib.hid hx
  have HO := Lib.hid ho
  have HL := Lib.hid hL
  clear hx ho hL
  refine (callsIn_wide (n := 6)).1 (callsIn_of_wp_marks Try.func43 rfl trivial ?_ rfl)
  simp only [Try.ntmps43, List.size_toArray, List.length_cons, List.length_nil, Nat.reduceAdd, Nat.reduceSub, Array.replicate_succ, Array.replicate_zero, List.push_toArray, List.append_toArray, List.nil_append, List.cons_append]
  refine wpIn_wide.2 ?_
  go_upto_region 2 with (fail)
  generalize (((((w.alloc (.cells #[.slice (some a) n c] 32)).alloc (.cells #[.int .i64 N] 3)).alloc (.cells #[.int .u32 0] 34)).alloc (.cells #[.int .i64 0] 3)).alloc (.cells #[.int .i64 0] 26)).alloc (.cells #[.slice (some ⟨a.block, a.off + 16, none⟩) 8 (c - 16)] 32) = w0 at *
  generalize hs0 : w.heap.size = g at *
  obtain ⟨d0, d1, d2, d3, d4, d5, d6, d7⟩ := HY.out w0 H6.out.bel
  have k0 := H6.out.b0.cell 0; have k1 := H6.out.b1.cell 0; have k2 := H6.out.b2.cell 0; have k3 := H6.out.b3.cell 0; have k4 := H6.out.b4.cell 0; have k5 := H6.out.b5.cell 0; have f2 := H6.out.b2.frozen 0; have f3 := H6.out.b3.frozen 0; have f4 := H6.out.b4.frozen 0
  simp only [List.getElem?_toArray, List.getElem?_cons_zero] at k0 k1 k2 k3 k4 k5
  by_cases hbad : y0 = 0 ∧ y1 = 0 ∧ y3 = 16
  · obtain ⟨rfl, rfl, rfl⟩ := hbad
    have w16 : IntKind.i64.wrap ((N : Int) + 16) = (N : Int) + 16 := IntWalk.i64_in _ (by omega)
    by_cases gn : n = N + 16
    · subst gn
      go_wp2_with fail
      refine (taken_any KA m kc now w0).mono ?_
      rintro e w6 ⟨rfl, rfl⟩
      clear k0 k1 k2 k3 k4 k5 f2 f3 f4 d0 d1 d2 d3 d4 d5 d6 d7
      go_wp2_with fail
      have HB1 : Hid (((w0.alloc (.cells #[.slice KA m kc] 22)).alloc (.cells #[.int .i64 now] 3)).cell? ⟨w0.heap.size, 0, none⟩ = some (.slice KA m kc) ∧ ((w0.alloc (.cells #[.slice KA m kc] 22)).alloc (.cells #[.int .i64 now] 3)).cell? ⟨w0.heap.size + 1, 0, none⟩ = some (.int .i64 now) ∧
          ((w0.alloc (.cells #[.slice KA m kc] 22)).alloc (.cells #[.int .i64 now] 3)).heap.size = w0.heap.size + 2 ∧ DB w ((w0.alloc (.cells #[.slice KA m kc] 22)).alloc (.cells #[.int .i64 now] 3)) g (.slice (some a) (N + 16) c) (.int .i64 N) (.int .u32 0) (.int .i64 0) (.int .i64 0) (.slice (some ⟨a.block, a.off + 16, none⟩) 8 (c - 16)) ∧ g + 1 + 1 + 1 + 1 + 1 < w0.heap.size) := by
        have h1 : Blk ((w0.alloc (.cells #[.slice KA m kc] 22)).alloc (.cells #[.int .i64 now] 3)) w0.heap.size 22 #[.slice KA m kc] := (Blk.new _ _ _).alloc _
        have h2 : Blk ((w0.alloc (.cells #[.slice KA m kc] 22)).alloc (.cells #[.int .i64 now] 3)) (w0.heap.size + 1) 3 #[.int .i64 now] := new_at _ _ _
        exact ⟨h1.cell 0, h2.cell 0, by rw [World.size_alloc, World.size_alloc], H6.out.later (below_two_ _ _ _), H6.out.b5.lt⟩
      generalize (w0.alloc (.cells #[.slice KA m kc] 22)).alloc (.cells #[.int .i64 now] 3) = w7 at *
      clear H6
      generalize w0.heap.size = B1 at *
      refine (wpIn_wide (n := 6)).1 ?_
      refine wpIn_rangeFunc_ownH (α := {k : AK // k ∈ L}) rfl (by decide) (gf := 93) (lb := #[.pointer (some ⟨B1, 0, none⟩), .pointer (some ⟨B1 + 1, 0, none⟩)]) rfl trivial (enters_of Try.func93 (by kernel_rfl) rfl)
        (encs := fun x => #[x.1.v]) (Kp := Below w7.heap.size) (S := fun ys => ys = takenTo L now L.length) (Sp := fun pre => pre <+: takenTo L now L.length) (N := L.length) (w0 := w7)
        (fun l J Jx W hW hJ _ hY h0 => taken1_in Fence.wide 5 trivial rfl (by decide) l B1 (B1 + 1) w7.heap.size KA m kc L now (by omega) HL.out.len J Jx W hJ hY hW.size (by have := HB1.out.2.2.1; omega) (by have := HB1.out.2.2.1; omega)
          ((hW.cell (p := ⟨B1, 0, none⟩) (by have := HB1.out.2.2.1; show B1 < _; omega)).trans HB1.out.1) ((hW.cell (p := ⟨B1 + 1, 0, none⟩) (by have := HB1.out.2.2.1; show B1 + 1 < _; omega)).trans HB1.out.2.1)
          ((HL.out.later (hs0 ▸ HB1.out.2.2.2.1.bel)).row.below hW) h0)
        belowK_t (belowK_b (Nat.le_refl _)) (Below.refl _ _) (fun _ => rfl)
        (fun pre W => NoK xs N pre ∧ DB w W g (.slice (some a) (N + 16) c) (.int .i64 N) (.int .u32 0) (.int .i64 0) (.int .i64 0) (.slice (some ⟨a.block, a.off + 16, none⟩) 8 (c - 16)) ∧ w7.heap.size ≤ W.heap.size)
        (fun cd pre W => (cd = .ret ∧ ∃ y : {k : AK // k ∈ L}, y ∈ pre ∧ dgK xs N y.1 = true) ∧ DB w W g (.slice (some a) (N + 16) c) (.int .i64 N) (.int .u32 (seqOf xs)) (.int .i64 N) (.int .i64 0) (.slice (some ⟨a.block, a.off + 16, none⟩) 8 (c - 16)))
        (OwnFrom.and (ownFrom_pure _ _) (OwnFrom.and (DB.own (by have := HB1.out.2.2; omega)) (fun _ _ _ _ h hg _ => Nat.le_trans h hg.size)))
        (fun cd => OwnFrom.and (ownFrom_pure _ (fun (pre : List {k : AK // k ∈ L}) => cd = .ret ∧ ∃ y : {k : AK // k ∈ L}, y ∈ pre ∧ dgK xs N y.1 = true)) (DB.own (by have := HB1.out.2.2; omega)))
        ⟨NoK.nil xs N L, HB1.out.2.2.2.1, Nat.le_refl _⟩
        (fun x a' W => ∃ Bx, w7.heap.size ≤ Bx ∧ Blk W Bx 70 x.1.cells.toArray ∧ a' = { tmps := odT a KA c m kc N g B1 now x Bx, defers := [] })
        (fun x a' s W W' row h hg hr => by
          obtain ⟨Bx, h1, h2, h3⟩ := h
          exact ⟨Bx, h1, blk_own (β := Unit) () W W' row h2 hg hr, h3⟩)
        ?assign ?body ?done ?stop
      case assign =>
        intro l pre x W K hI hK
        obtain ⟨⟨id, kind, S, sn, sc, sf, su, tf, tu, bs⟩, hxL⟩ := x
        have hB : Below W.heap.size W (W.alloc (.cells #[.int .u8 id, .int .u16 kind, .slice S sn sc, .int .i64 sf, .int .i64 su, .int .i64 tf, .int .i64 tu] 70)) := (Below.refl _ _).alloc (Nat.le_refl _) _
        gi_wp2
        exact hK _ _ (KeepsFrom.of_below hB) (hB.mono hI.2.2) ⟨hI.1, hI.2.1.later hB, Nat.le_trans hI.2.2 hB.size⟩ ⟨W.heap.size, hI.2.2, Blk.new _ _ _, rfl⟩
      case done =>
        rintro D ys W hD rfl ⟨hno, hOB, hsz⟩ hK
        have HO3 := Lib.hid (((hOB.set2 (.int .u32 0)).set3 (.int .i64 0)).set4 (.int .i64 26))
        have HK3 : Hid ((((W.setCell ⟨g + 1 + 1, 0, none⟩ (.int .u32 0)).setCell ⟨g + 1 + 1 + 1, 0, none⟩ (.int .i64 0)).setCell ⟨g + 1 + 1 + 1 + 1, 0, none⟩ (.int .i64 26)).heap[D]? = some (.deferred (some []))) :=
          (KeepsOthers.setCell _ _ _).same D _ ((KeepsOthers.setCell _ _ _).same D _ ((KeepsOthers.setCell _ _ _).same D _ hK rfl) rfl) rfl
        have hr : Hid (digOf xs N L now = (0, 0, 26)) := by show _ = _; rw [hp.out, if_neg (by omega), if_neg (by omega), if_neg (by rw [dg_no hno]; decide)]
        have k1 := hOB.b2.cell 0; have k2 := hOB.b3.cell 0; have k3 := hOB.b4.cell 0; have f1 := hOB.b2.frozen 0; have f2 := hOB.b3.frozen 0; have f3 := hOB.b4.frozen 0
        simp only [List.getElem?_toArray, List.getElem?_cons_zero] at k1 k2 k3
        clear hOB hno hK hp
        go_wp2
        generalize ((W.setCell ⟨g + 1 + 1, 0, none⟩ (.int .u32 0)).setCell ⟨g + 1 + 1 + 1, 0, none⟩ (.int .i64 0)).setCell ⟨g + 1 + 1 + 1 + 1, 0, none⟩ (.int .i64 26) = W3 at *
        refine ⟨by simp, .inl ⟨_, _, rfl, run_takeDeferred HK3.out, ?_⟩⟩
        have HP := db_after HO3.out (by have := HB1.out.2.2; omega) HK3.out
        exact ⟨_, db_results HP rfl rfl rfl, dgAt ⟨rfl, by rw [hs0]; exact HP.bel⟩ hr.out⟩
      case stop =>
        rintro D cd pre W hD hpre ⟨⟨rfl, hex⟩, hOB⟩ hK
        refine wpIn_wide.2 ?_
        have hr : Hid (digOf xs N L now = (seqOf xs, (N : Int), 0)) := by show _ = _; rw [hp.out, if_neg (by omega), if_neg (by omega), if_pos (dg_yes hpre hex)]
        go_wp2
        refine ⟨by simp, .inl ⟨_, _, rfl, run_takeDeferred hK, ?_⟩⟩
        have HP := db_after hOB (by have := HB1.out.2.2; omega) hK
        exact ⟨_, db_results HP rfl rfl rfl, dgAt ⟨rfl, by rw [hs0]; exact HP.bel⟩ hr.out⟩
      case body =>
        rintro l pre x a' W hlw ⟨r, hr⟩ ⟨hno, hOB, hsz⟩ ⟨Bx, hBx, bX, rfl⟩ hlt
        obtain ⟨⟨id, kind, S, sn, sc, sf, su, tf, tu, bs⟩, hxL⟩ := x
        have HOB := Lib.hid hOB
        have HNO := Lib.hid hno
        have HSS : Hid ((fun V : World => SS w V g Bx #[.int .u8 id, .int .u16 kind, .slice S sn sc, .int .i64 sf, .int .i64 su, .int .i64 tf, .int .i64 tu] (.slice (some a) (N + 16) c) (.int .i64 N) (.slice (some ⟨a.block, a.off + 16, none⟩) 8 (c - 16))) W.drew) := (SS.of_db hOB.drew (show Blk W Bx 70 #[.int .u8 id, .int .u16 kind, .slice S sn sc, .int .i64 sf, .int .i64 su, .int .i64 tf, .int .i64 tu] from bX))
        have HXB : Hid (w7.heap.size ≤ Bx ∧ Bx < W.heap.size) := ⟨hBx, bX.lt⟩
        have HKO : Hid (∀ V : World, Below g w V → KOk V ⟨id, kind, S, sn, sc, sf, su, tf, tu, bs⟩) := fun V hV => (HL.out.later (hs0 ▸ hV)).ok _ hxL
        have HXl : Hid (∀ V : World, Below g w V → Reads V V.heap.size 1 (some a) (N + 16) (u8s xs)) := fun V hV => (HX.out.below hV).more (by have := hV.size; omega)
        have HGD := HG.out.2.2.1
        have HGd := Lib.hid HGD
        have hNl : (N : Int) ≤ (c : Int) := by omega
        have hcN : ¬ c = N := by omega
        have hNn2 : (N : Int) ≤ (N : Int) + 16 := by omega
        clear hOB bX hno hr hlw HGD
        gi_wp2
        refine wpIn_round_s (fun V : World => SS w V g Bx #[.int .u8 id, .int .u16 kind, .slice S sn sc, .int .i64 sf, .int .i64 su, .int .i64 tf, .int .i64 tu] (.slice (some a) (N + 16) c) (.int .i64 N) (.slice (some ⟨a.block, a.off + 16, none⟩) 8 (c - 16))) [(0, true), (1, true), (2, true), (3, true), (4, true), (5, true)] (by kernel_rfl) (fun _ d _ _ _ h => by cases d <;> exact h) (fun _ _ h => h) ?_
        simp only [List.map_cons, List.map_nil, nthOp_zero, nthOp_succ]
        have HBd : Hid (Below W.heap.size W W.drew) := (Below.refl _ _).drew
        generalize W.drew = w1 at *
        refine wpS_take HSS (by kernel_rfl) (by intro V hV; have j0 := hV.key.cell 0; have j2 := hV.key.cell 2; have k0 := hV.b0.cell 0; have k1 := hV.b1.cell 0; have k5 := hV.b5.cell 0; obtain ⟨d0, d1, d2, d3, d4, d5, d6, d7⟩ := HY.out V hV.bel; clear hV; simp only [List.getElem?_toArray, List.getElem?_cons_zero, List.getElem?_cons_succ] at j0 j2 k0 k1 k5; go_simp; try with_reducible rfl) ?_
        refine wpS_take HSS (by kernel_rfl) (by intro V hV; have j0 := hV.key.cell 0; have j2 := hV.key.cell 2; have k0 := hV.b0.cell 0; have k1 := hV.b1.cell 0; have k5 := hV.b5.cell 0; obtain ⟨d0, d1, d2, d3, d4, d5, d6, d7⟩ := HY.out V hV.bel; clear hV; simp only [List.getElem?_toArray, List.getElem?_cons_zero, List.getElem?_cons_succ] at j0 j2 k0 k1 k5; go_simp; try with_reducible rfl) ?_
        refine wpS_take HSS (by kernel_rfl) (by intro V hV; have j0 := hV.key.cell 0; have j2 := hV.key.cell 2; have k0 := hV.b0.cell 0; have k1 := hV.b1.cell 0; have k5 := hV.b5.cell 0; obtain ⟨d0, d1, d2, d3, d4, d5, d6, d7⟩ := HY.out V hV.bel; clear hV; simp only [List.getElem?_toArray, List.getElem?_cons_zero, List.getElem?_cons_succ] at j0 j2 k0 k1 k5; go_simp; try with_reducible rfl) ?_
        refine wpS_take HSS (by kernel_rfl) (by intro V hV; have j0 := hV.key.cell 0; have j2 := hV.key.cell 2; have k0 := hV.b0.cell 0; have k1 := hV.b1.cell 0; have k5 := hV.b5.cell 0; obtain ⟨d0, d1, d2, d3, d4, d5, d6, d7⟩ := HY.out V hV.bel; clear hV; simp only [List.getElem?_toArray, List.getElem?_cons_zero, List.getElem?_cons_succ] at j0 j2 k0 k1 k5; go_simp; try with_reducible rfl) ?_
        refine wpS_take HSS (by kernel_rfl) (by intro V hV; have j0 := hV.key.cell 0; have j2 := hV.key.cell 2; have k0 := hV.b0.cell 0; have k1 := hV.b1.cell 0; have k5 := hV.b5.cell 0; obtain ⟨d0, d1, d2, d3, d4, d5, d6, d7⟩ := HY.out V hV.bel; clear hV; simp only [List.getElem?_toArray, List.getElem?_cons_zero, List.getElem?_cons_succ] at j0 j2 k0 k1 k5; go_simp; try with_reducible rfl) ?_
        refine wpS_take HSS (by kernel_rfl) (by intro V hV; have j0 := hV.key.cell 0; have j2 := hV.key.cell 2; have k0 := hV.b0.cell 0; have k1 := hV.b1.cell 0; have k5 := hV.b5.cell 0; obtain ⟨d0, d1, d2, d3, d4, d5, d6, d7⟩ := HY.out V hV.bel; clear hV; simp only [List.getElem?_toArray, List.getElem?_cons_zero, List.getElem?_cons_succ] at j0 j2 k0 k1 k5; go_simp; try with_reducible rfl) ?_
        refine wpS_nil ?_
        go_simp
        by_cases q1 : id = y2
        · subst q1
          gi_wp2
          obtain ⟨bb, hb0⟩ : ∃ bb, bb = decide (md (xs.take N ++ key16 bs) = xs.drop N) := ⟨_, rfl⟩
          have hbb := Lib.hid hb0
          have hdk : Hid (dgK xs N ⟨id, kind, S, sn, sc, sf, su, tf, tu, bs⟩ = bb) := by show _ = _; unfold dgK; simp only [HGd.out]; simp [hb0]
          clear hb0
          have HSS2 : Hid ((fun V : World => SS w V g Bx #[.int .u8 id, .int .u16 kind, .slice S sn sc, .int .i64 sf, .int .i64 su, .int .i64 tf, .int .i64 tu] (.slice (some a) (N + 16) c) (.int .i64 N) (.slice (some ⟨a.block, a.off + 16, none⟩) 8 (c - 16))) w1.drew) := HSS.out.later (Below.refl _ _).drew
          have HBd2 : Hid (Below W.heap.size W w1.drew) := HBd.out.drew
          refine wpIn_round_r (fun V : World => SS w V g Bx #[.int .u8 id, .int .u16 kind, .slice S sn sc, .int .i64 sf, .int .i64 su, .int .i64 tf, .int .i64 tu] (.slice (some a) (N + 16) c) (.int .i64 N) (.slice (some ⟨a.block, a.off + 16, none⟩) 8 (c - 16))) [.take 0, .take 1, .take 2, .take 3, .take 4, .two 5 6, .one 7] (by kernel_rfl) (fun _ d _ _ _ h => by cases d <;> exact h) (fun _ _ h => h) ?_
          simp only [List.map_cons, List.map_nil, RStep.node, nthOp_zero, nthOp_succ]
          clear HSS HBd
          generalize w1.drew = w2 at *
          refine wpR_take HSS2 (by kernel_rfl) (by intro V hV; have j0 := hV.key.cell 0; have j2 := hV.key.cell 2; have k0 := hV.b0.cell 0; have k1 := hV.b1.cell 0; have k5 := hV.b5.cell 0; obtain ⟨d0, d1, d2, d3, d4, d5, d6, d7⟩ := HY.out V hV.bel; clear hV; simp only [List.getElem?_toArray, List.getElem?_cons_zero, List.getElem?_cons_succ] at j0 j2 k0 k1 k5; go_simp; try with_reducible rfl) ?_
          refine wpR_take HSS2 (by kernel_rfl) (by intro V hV; have j0 := hV.key.cell 0; have j2 := hV.key.cell 2; have k0 := hV.b0.cell 0; have k1 := hV.b1.cell 0; have k5 := hV.b5.cell 0; obtain ⟨d0, d1, d2, d3, d4, d5, d6, d7⟩ := HY.out V hV.bel; clear hV; simp only [List.getElem?_toArray, List.getElem?_cons_zero, List.getElem?_cons_succ] at j0 j2 k0 k1 k5; go_simp; try with_reducible rfl) ?_
          refine wpR_take HSS2 (by kernel_rfl) (by intro V hV; have j0 := hV.key.cell 0; have j2 := hV.key.cell 2; have k0 := hV.b0.cell 0; have k1 := hV.b1.cell 0; have k5 := hV.b5.cell 0; obtain ⟨d0, d1, d2, d3, d4, d5, d6, d7⟩ := HY.out V hV.bel; clear hV; simp only [List.getElem?_toArray, List.getElem?_cons_zero, List.getElem?_cons_succ] at j0 j2 k0 k1 k5; go_simp; try with_reducible rfl) ?_
          refine wpR_take HSS2 (by kernel_rfl) (by intro V hV; have j0 := hV.key.cell 0; have j2 := hV.key.cell 2; have k0 := hV.b0.cell 0; have k1 := hV.b1.cell 0; have k5 := hV.b5.cell 0; obtain ⟨d0, d1, d2, d3, d4, d5, d6, d7⟩ := HY.out V hV.bel; clear hV; simp only [List.getElem?_toArray, List.getElem?_cons_zero, List.getElem?_cons_succ] at j0 j2 k0 k1 k5; go_simp; try with_reducible rfl) ?_
          refine wpR_take HSS2 (by kernel_rfl) (by intro V hV; have j0 := hV.key.cell 0; have j2 := hV.key.cell 2; have k0 := hV.b0.cell 0; have k1 := hV.b1.cell 0; have k5 := hV.b5.cell 0; obtain ⟨d0, d1, d2, d3, d4, d5, d6, d7⟩ := HY.out V hV.bel; clear hV; simp only [List.getElem?_toArray, List.getElem?_cons_zero, List.getElem?_cons_succ] at j0 j2 k0 k1 k5; go_simp; try with_reducible rfl) ?_
          go_simp
          have HKEY : Hid (∀ V : World, Below g w V → Calls Try.prog 74 #[.slice S sn sc, .slice (some a) N c] V fun e w' => e = .returned (.agg (u8s (md (xs.take N ++ key16 bs))).toArray) ∧ Below V.heap.size V w') := fun V hV =>
            keyed_any S (some a) sn sc N c bs (xs.take N) V (HKO.out V hV).sec ((HXl.out V hV).u8pre (by omega)) (HKO.out V hV).oct (HO.out.take N) (by omega) (by have h1 := (HKO.out V hV).cap.1; have h2 := (HKO.out V hV).cap.2; simp only at h1 h2; omega)
          have F16 : Hid ((u8s (md (xs.take N ++ key16 bs))).toArray.size = 16 ∧ (u8s (md (xs.take N ++ key16 bs))).toArray.all (·.oneCell') = true) := ⟨by simp [u8s_length, md_len], by simp [u8s, Value.oneCell']⟩
          refine wpR_two (fun K K1 hK hK1 => ?_) (fun K K1 hK hK1 => ?_)
          · go_wp2_with (go_at_call 74; refine (HKEY.out w2 HSS2.out.bel).mono ?_; rintro e w3 ⟨rfl, hb3⟩; have H3 := Lib.hid hb3; clear hb3)
            refine hK1.out _ _ (HSS2.out.later H3.out) ?_
            clear hK1 K1
            have HB4 : Hid (Below W.heap.size W (w3.alloc (.cells z16r 122)) ∧ Blk (w3.alloc (.cells z16r 122)) w3.heap.size 122 z16r ∧ W.heap.size ≤ w3.heap.size ∧ (fun V : World => SS w V g Bx #[.int .u8 id, .int .u16 kind, .slice S sn sc, .int .i64 sf, .int .i64 su, .int .i64 tf, .int .i64 tu] (.slice (some a) (N + 16) c) (.int .i64 N) (.slice (some ⟨a.block, a.off + 16, none⟩) 8 (c - 16))) (w3.alloc (.cells z16r 122)) ∧ w2.heap.size ≤ w3.heap.size) :=
              ⟨(HBd2.out.trans (H3.out.mono HBd2.out.size)).alloc (HBd2.out.trans (H3.out.mono HBd2.out.size)).size _, Blk.new _ _ _, (HBd2.out.trans (H3.out.mono HBd2.out.size)).size, (HSS2.out.later H3.out).later ((Below.refl _ _).alloc (Nat.le_refl _) _), H3.out.size⟩
            go_wp2
            refine hK.out _ _ HB4.out.2.2.2.1 ?_
            clear hK K HSS2 HBd2 H3
            generalize w3.alloc (.cells z16r 122) = w4 at *
            generalize w3.heap.size = D at *
            refine wpR_do fun K hK => ?_
            go_wp2_with (refine wpList_store_row rfl 122 _ _ rfl D (u8s (md (xs.take N ++ key16 bs))).toArray rfl rfl 122 _ HB4.out.2.1 (by rw [F16.out.1]; exact i27) (by rw [F16.out.1]; rfl) F16.out.2 ?_)
            have HB5 : Hid (Below W.heap.size W (w4.setRow D (u8s (md (xs.take N ++ key16 bs))).toArray) ∧ Blk (w4.setRow D (u8s (md (xs.take N ++ key16 bs))).toArray) D 122 (u8s (md (xs.take N ++ key16 bs))).toArray ∧ (fun V : World => SS w V g Bx #[.int .u8 id, .int .u16 kind, .slice S sn sc, .int .i64 sf, .int .i64 su, .int .i64 tf, .int .i64 tu] (.slice (some a) (N + 16) c) (.int .i64 N) (.slice (some ⟨a.block, a.off + 16, none⟩) 8 (c - 16))) (w4.setRow D (u8s (md (xs.take N ++ key16 bs))).toArray) ∧ Below w7.heap.size W (w4.setRow D (u8s (md (xs.take N ++ key16 bs))).toArray)) := by
              have h1 := below_setRow HB4.out.1 HB4.out.2.2.1 (u8s (md (xs.take N ++ key16 bs))).toArray
              exact ⟨h1, HB4.out.2.1.setRow _, SS.of_db (HOB.out.later h1) (by have := HB4.out.2.2.2.1.key; exact this.setRow_far (by have h5 := HXB.out; have h6 := HB4.out.2.2.1; omega) _), h1.mono hsz⟩
            refine hK.out _ _ HB5.out.2.2.1 ?_
            clear hK K HB4 HKEY
            generalize w4.setRow D (u8s (md (xs.take N ++ key16 bs))).toArray = w5 at *
            refine wpR_nil ?_
            try go_simp
            gi_wp2
            have HSS6 : Hid ((fun V : World => SS w V g Bx #[.int .u8 id, .int .u16 kind, .slice S sn sc, .int .i64 sf, .int .i64 su, .int .i64 tf, .int .i64 tu] (.slice (some a) (N + 16) c) (.int .i64 N) (.slice (some ⟨a.block, a.off + 16, none⟩) 8 (c - 16))) w5.drew) := HB5.out.2.2.1.later (Below.refl _ _).drew
            have HB6 : Hid (Below W.heap.size W w5.drew ∧ Reads w5.drew w5.drew.heap.size 1 (some ⟨D, 0, none⟩) 16 (u8s (md (xs.take N ++ key16 bs)))) := ⟨HB5.out.1.drew, by
              have h1 := (HB5.out.2.1.reads (n := 16) (by rw [u8s_length, md_len]; omega))
              rw [List.take_of_length_le (by rw [u8s_length, md_len]; omega)] at h1
              exact h1.more HB5.out.2.1.lt⟩
            refine wpIn_round_s (fun V : World => SS w V g Bx #[.int .u8 id, .int .u16 kind, .slice S sn sc, .int .i64 sf, .int .i64 su, .int .i64 tf, .int .i64 tu] (.slice (some a) (N + 16) c) (.int .i64 N) (.slice (some ⟨a.block, a.off + 16, none⟩) 8 (c - 16))) [(0, true), (1, true), (2, true), (3, true), (4, false)] (by kernel_rfl) (fun _ d _ _ _ h => by cases d <;> exact h) (fun _ _ h => h) ?_
            simp only [List.map_cons, List.map_nil, nthOp_zero, nthOp_succ]
            clear HB5
            generalize w5.drew = w6 at *
            refine wpS_take HSS6 (by kernel_rfl) (by intro V hV; have j0 := hV.key.cell 0; have j2 := hV.key.cell 2; have k0 := hV.b0.cell 0; have k1 := hV.b1.cell 0; have k5 := hV.b5.cell 0; obtain ⟨d0, d1, d2, d3, d4, d5, d6, d7⟩ := HY.out V hV.bel; clear hV; simp only [List.getElem?_toArray, List.getElem?_cons_zero, List.getElem?_cons_succ] at j0 j2 k0 k1 k5; go_simp; try with_reducible rfl) ?_
            refine wpS_take HSS6 (by kernel_rfl) (by intro V hV; have j0 := hV.key.cell 0; have j2 := hV.key.cell 2; have k0 := hV.b0.cell 0; have k1 := hV.b1.cell 0; have k5 := hV.b5.cell 0; obtain ⟨d0, d1, d2, d3, d4, d5, d6, d7⟩ := HY.out V hV.bel; clear hV; simp only [List.getElem?_toArray, List.getElem?_cons_zero, List.getElem?_cons_succ] at j0 j2 k0 k1 k5; go_simp; try with_reducible rfl) ?_
            refine wpS_take HSS6 (by kernel_rfl) (by intro V hV; have j0 := hV.key.cell 0; have j2 := hV.key.cell 2; have k0 := hV.b0.cell 0; have k1 := hV.b1.cell 0; have k5 := hV.b5.cell 0; obtain ⟨d0, d1, d2, d3, d4, d5, d6, d7⟩ := HY.out V hV.bel; clear hV; simp only [List.getElem?_toArray, List.getElem?_cons_zero, List.getElem?_cons_succ] at j0 j2 k0 k1 k5; go_simp; try with_reducible rfl) ?_
            refine wpS_take HSS6 (by kernel_rfl) (by intro V hV; have j0 := hV.key.cell 0; have j2 := hV.key.cell 2; have k0 := hV.b0.cell 0; have k1 := hV.b1.cell 0; have k5 := hV.b5.cell 0; obtain ⟨d0, d1, d2, d3, d4, d5, d6, d7⟩ := HY.out V hV.bel; clear hV; simp only [List.getElem?_toArray, List.getElem?_cons_zero, List.getElem?_cons_succ] at j0 j2 k0 k1 k5; go_simp; try with_reducible rfl) ?_
            go_simp
            have HSm := Lib.hid (toBelow (same_any (some ⟨D, 0, none⟩) (some (a.add N)) 16 16 16 (c - N) (md (xs.take N ++ key16 bs)) (xs.drop N) w6 w6.heap.size w6.heap.size HB6.out.2 (by
              have h1 := (HXl.out _ HSS6.out.bel).u8cut (k := N) (cap := c) (by omega) (by omega)
              rw [if_neg hcN] at h1
              rwa [show N + 16 - N = 16 by omega] at h1) (md_oct _) (HO.out.drop N) (by omega) (by omega)))
            rw [← hbb.out] at HSm
            refine wpS_do fun K hK => ?_
            go_wp2_with (go_at_call 92; refine HSm.out.mono ?_; rintro e w8 ⟨rfl, hb8⟩; have H8 := Lib.hid hb8; clear hb8)
            have HSS8 : Hid ((fun V : World => SS w V g Bx #[.int .u8 id, .int .u16 kind, .slice S sn sc, .int .i64 sf, .int .i64 su, .int .i64 tf, .int .i64 tu] (.slice (some a) (N + 16) c) (.int .i64 N) (.slice (some ⟨a.block, a.off + 16, none⟩) 8 (c - 16))) w8) := HSS6.out.later H8.out
            have HB8 := Lib.hid (HB6.out.1.trans (H8.out.mono HB6.out.1.size))
            refine hK.out _ _ HSS8.out ?_
            clear hK K HSm HSS6 HB6 H8
            refine wpS_nil ?_
            try go_simp
            cases bb
            · gi_wp2
              exact ⟨KeepsFrom.of_below HB8.out, HB8.out.mono hsz, HNO.out.next hdk.out, HOB.out.later HB8.out, Nat.le_trans hsz HB8.out.size⟩
            · gi_wp2
              have HDB9 : Hid (DB w w8.drew g (.slice (some a) (N + 16) c) (.int .i64 N) (.int .u32 0) (.int .i64 0) (.int .i64 0) (.slice (some ⟨a.block, a.off + 16, none⟩) 8 (c - 16))) := (HOB.out.later HB8.out).drew
              have HSS9 : Hid ((fun V : World => SS w V g Bx #[.int .u8 id, .int .u16 kind, .slice S sn sc, .int .i64 sf, .int .i64 su, .int .i64 tf, .int .i64 tu] (.slice (some a) (N + 16) c) (.int .i64 N) (.slice (some ⟨a.block, a.off + 16, none⟩) 8 (c - 16))) w8.drew) := HSS8.out.later (Below.refl _ _).drew
              have HB9 : Hid (Below W.heap.size W w8.drew) := HB8.out.drew
              have HQ : Hid (seqOf xs = bits .or .u32 (bits .or .u32 (bits .or .u32 (y4 * 16777216) (y5 * 65536)) (y6 * 256)) y7) := by
                obtain ⟨_, _, _, _, e4, e5, e6, e7⟩ := HG.out
                show _ = _; unfold seqOf; rw [e4, e5, e6, e7]
              have z0 : IntKind.u32.wrap y4 = y4 := IntWalk.u32_in _ (by omega)
              have z1 : IntKind.u32.wrap y5 = y5 := IntWalk.u32_in _ (by omega)
              have z2 : IntKind.u32.wrap y6 = y6 := IntWalk.u32_in _ (by omega)
              have z3 : IntKind.u32.wrap y7 = y7 := IntWalk.u32_in _ (by omega)
              have z4 : IntKind.u32.wrap (y4 * 16777216) = y4 * 16777216 := IntWalk.u32_in _ (by omega)
              have z5 : IntKind.u32.wrap (y5 * 65536) = y5 * 65536 := IntWalk.u32_in _ (by omega)
              have z6 : IntKind.u32.wrap (y6 * 256) = y6 * 256 := IntWalk.u32_in _ (by omega)
              refine wpIn_round_s (fun V : World => SS w V g Bx #[.int .u8 id, .int .u16 kind, .slice S sn sc, .int .i64 sf, .int .i64 su, .int .i64 tf, .int .i64 tu] (.slice (some a) (N + 16) c) (.int .i64 N) (.slice (some ⟨a.block, a.off + 16, none⟩) 8 (c - 16))) [(0, true), (1, true), (2, true), (3, true), (4, true), (5, true), (6, true), (7, true), (8, true), (9, true), (10, true), (11, true), (12, true), (13, true), (14, true), (15, true), (16, true), (17, true), (18, true), (19, true), (20, true), (21, true), (22, true), (23, false), (24, false), (25, false)] (by kernel_rfl) (fun _ d _ _ _ h => by cases d <;> exact h) (fun _ _ h => h) ?_
              simp only [List.map_cons, List.map_nil, nthOp_zero, nthOp_succ]
              clear HSS8 HB8
              generalize w8.drew = w9 at *
              refine wpS_take HSS9 (by kernel_rfl) (by intro V hV; have j0 := hV.key.cell 0; have j2 := hV.key.cell 2; have k0 := hV.b0.cell 0; have k1 := hV.b1.cell 0; have k5 := hV.b5.cell 0; obtain ⟨d0, d1, d2, d3, d4, d5, d6, d7⟩ := HY.out V hV.bel; clear hV; simp only [List.getElem?_toArray, List.getElem?_cons_zero, List.getElem?_cons_succ] at j0 j2 k0 k1 k5; go_simp; try with_reducible rfl) ?_
              refine wpS_take HSS9 (by kernel_rfl) (by intro V hV; have j0 := hV.key.cell 0; have j2 := hV.key.cell 2; have k0 := hV.b0.cell 0; have k1 := hV.b1.cell 0; have k5 := hV.b5.cell 0; obtain ⟨d0, d1, d2, d3, d4, d5, d6, d7⟩ := HY.out V hV.bel; clear hV; simp only [List.getElem?_toArray, List.getElem?_cons_zero, List.getElem?_cons_succ] at j0 j2 k0 k1 k5; go_simp; try with_reducible rfl) ?_
              refine wpS_take HSS9 (by kernel_rfl) (by intro V hV; have j0 := hV.key.cell 0; have j2 := hV.key.cell 2; have k0 := hV.b0.cell 0; have k1 := hV.b1.cell 0; have k5 := hV.b5.cell 0; obtain ⟨d0, d1, d2, d3, d4, d5, d6, d7⟩ := HY.out V hV.bel; clear hV; simp only [List.getElem?_toArray, List.getElem?_cons_zero, List.getElem?_cons_succ] at j0 j2 k0 k1 k5; go_simp; try with_reducible rfl) ?_
              refine wpS_take HSS9 (by kernel_rfl) (by intro V hV; have j0 := hV.key.cell 0; have j2 := hV.key.cell 2; have k0 := hV.b0.cell 0; have k1 := hV.b1.cell 0; have k5 := hV.b5.cell 0; obtain ⟨d0, d1, d2, d3, d4, d5, d6, d7⟩ := HY.out V hV.bel; clear hV; simp only [List.getElem?_toArray, List.getElem?_cons_zero, List.getElem?_cons_succ] at j0 j2 k0 k1 k5; go_simp; try with_reducible rfl) ?_
              refine wpS_take HSS9 (by kernel_rfl) (by intro V hV; have j0 := hV.key.cell 0; have j2 := hV.key.cell 2; have k0 := hV.b0.cell 0; have k1 := hV.b1.cell 0; have k5 := hV.b5.cell 0; obtain ⟨d0, d1, d2, d3, d4, d5, d6, d7⟩ := HY.out V hV.bel; clear hV; simp only [List.getElem?_toArray, List.getElem?_cons_zero, List.getElem?_cons_succ] at j0 j2 k0 k1 k5; go_simp; try with_reducible rfl) ?_
              refine wpS_take HSS9 (by kernel_rfl) (by intro V hV; have j0 := hV.key.cell 0; have j2 := hV.key.cell 2; have k0 := hV.b0.cell 0; have k1 := hV.b1.cell 0; have k5 := hV.b5.cell 0; obtain ⟨d0, d1, d2, d3, d4, d5, d6, d7⟩ := HY.out V hV.bel; clear hV; simp only [List.getElem?_toArray, List.getElem?_cons_zero, List.getElem?_cons_succ] at j0 j2 k0 k1 k5; go_simp; try with_reducible rfl) ?_
              refine wpS_take HSS9 (by kernel_rfl) (by intro V hV; have j0 := hV.key.cell 0; have j2 := hV.key.cell 2; have k0 := hV.b0.cell 0; have k1 := hV.b1.cell 0; have k5 := hV.b5.cell 0; obtain ⟨d0, d1, d2, d3, d4, d5, d6, d7⟩ := HY.out V hV.bel; clear hV; simp only [List.getElem?_toArray, List.getElem?_cons_zero, List.getElem?_cons_succ] at j0 j2 k0 k1 k5; go_simp; try with_reducible rfl) ?_
              refine wpS_take HSS9 (by kernel_rfl) (by intro V hV; have j0 := hV.key.cell 0; have j2 := hV.key.cell 2; have k0 := hV.b0.cell 0; have k1 := hV.b1.cell 0; have k5 := hV.b5.cell 0; obtain ⟨d0, d1, d2, d3, d4, d5, d6, d7⟩ := HY.out V hV.bel; clear hV; simp only [List.getElem?_toArray, List.getElem?_cons_zero, List.getElem?_cons_succ] at j0 j2 k0 k1 k5; go_simp; try with_reducible rfl) ?_
              refine wpS_take HSS9 (by kernel_rfl) (by intro V hV; have j0 := hV.key.cell 0; have j2 := hV.key.cell 2; have k0 := hV.b0.cell 0; have k1 := hV.b1.cell 0; have k5 := hV.b5.cell 0; obtain ⟨d0, d1, d2, d3, d4, d5, d6, d7⟩ := HY.out V hV.bel; clear hV; simp only [List.getElem?_toArray, List.getElem?_cons_zero, List.getElem?_cons_succ] at j0 j2 k0 k1 k5; go_simp; try with_reducible rfl) ?_
              refine wpS_take HSS9 (by kernel_rfl) (by intro V hV; have j0 := hV.key.cell 0; have j2 := hV.key.cell 2; have k0 := hV.b0.cell 0; have k1 := hV.b1.cell 0; have k5 := hV.b5.cell 0; obtain ⟨d0, d1, d2, d3, d4, d5, d6, d7⟩ := HY.out V hV.bel; clear hV; simp only [List.getElem?_toArray, List.getElem?_cons_zero, List.getElem?_cons_succ] at j0 j2 k0 k1 k5; go_simp; try with_reducible rfl) ?_
              refine wpS_take HSS9 (by kernel_rfl) (by intro V hV; have j0 := hV.key.cell 0; have j2 := hV.key.cell 2; have k0 := hV.b0.cell 0; have k1 := hV.b1.cell 0; have k5 := hV.b5.cell 0; obtain ⟨d0, d1, d2, d3, d4, d5, d6, d7⟩ := HY.out V hV.bel; clear hV; simp only [List.getElem?_toArray, List.getElem?_cons_zero, List.getElem?_cons_succ] at j0 j2 k0 k1 k5; go_simp; try with_reducible rfl) ?_
              refine wpS_take HSS9 (by kernel_rfl) (by intro V hV; have j0 := hV.key.cell 0; have j2 := hV.key.cell 2; have k0 := hV.b0.cell 0; have k1 := hV.b1.cell 0; have k5 := hV.b5.cell 0; obtain ⟨d0, d1, d2, d3, d4, d5, d6, d7⟩ := HY.out V hV.bel; clear hV; simp only [List.getElem?_toArray, List.getElem?_cons_zero, List.getElem?_cons_succ] at j0 j2 k0 k1 k5; go_simp; try with_reducible rfl) ?_
              refine wpS_take HSS9 (by kernel_rfl) (by intro V hV; have j0 := hV.key.cell 0; have j2 := hV.key.cell 2; have k0 := hV.b0.cell 0; have k1 := hV.b1.cell 0; have k5 := hV.b5.cell 0; obtain ⟨d0, d1, d2, d3, d4, d5, d6, d7⟩ := HY.out V hV.bel; clear hV; simp only [List.getElem?_toArray, List.getElem?_cons_zero, List.getElem?_cons_succ] at j0 j2 k0 k1 k5; go_simp; try with_reducible rfl) ?_
              refine wpS_take HSS9 (by kernel_rfl) (by intro V hV; have j0 := hV.key.cell 0; have j2 := hV.key.cell 2; have k0 := hV.b0.cell 0; have k1 := hV.b1.cell 0; have k5 := hV.b5.cell 0; obtain ⟨d0, d1, d2, d3, d4, d5, d6, d7⟩ := HY.out V hV.bel; clear hV; simp only [List.getElem?_toArray, List.getElem?_cons_zero, List.getElem?_cons_succ] at j0 j2 k0 k1 k5; go_simp; try with_reducible rfl) ?_
              refine wpS_take HSS9 (by kernel_rfl) (by intro V hV; have j0 := hV.key.cell 0; have j2 := hV.key.cell 2; have k0 := hV.b0.cell 0; have k1 := hV.b1.cell 0; have k5 := hV.b5.cell 0; obtain ⟨d0, d1, d2, d3, d4, d5, d6, d7⟩ := HY.out V hV.bel; clear hV; simp only [List.getElem?_toArray, List.getElem?_cons_zero, List.getElem?_cons_succ] at j0 j2 k0 k1 k5; go_simp; try with_reducible rfl) ?_
              refine wpS_take HSS9 (by kernel_rfl) (by intro V hV; have j0 := hV.key.cell 0; have j2 := hV.key.cell 2; have k0 := hV.b0.cell 0; have k1 := hV.b1.cell 0; have k5 := hV.b5.cell 0; obtain ⟨d0, d1, d2, d3, d4, d5, d6, d7⟩ := HY.out V hV.bel; clear hV; simp only [List.getElem?_toArray, List.getElem?_cons_zero, List.getElem?_cons_succ] at j0 j2 k0 k1 k5; go_simp; try with_reducible rfl) ?_
              refine wpS_take HSS9 (by kernel_rfl) (by intro V hV; have j0 := hV.key.cell 0; have j2 := hV.key.cell 2; have k0 := hV.b0.cell 0; have k1 := hV.b1.cell 0; have k5 := hV.b5.cell 0; obtain ⟨d0, d1, d2, d3, d4, d5, d6, d7⟩ := HY.out V hV.bel; clear hV; simp only [List.getElem?_toArray, List.getElem?_cons_zero, List.getElem?_cons_succ] at j0 j2 k0 k1 k5; go_simp; try with_reducible rfl) ?_
              refine wpS_take HSS9 (by kernel_rfl) (by intro V hV; have j0 := hV.key.cell 0; have j2 := hV.key.cell 2; have k0 := hV.b0.cell 0; have k1 := hV.b1.cell 0; have k5 := hV.b5.cell 0; obtain ⟨d0, d1, d2, d3, d4, d5, d6, d7⟩ := HY.out V hV.bel; clear hV; simp only [List.getElem?_toArray, List.getElem?_cons_zero, List.getElem?_cons_succ] at j0 j2 k0 k1 k5; go_simp; try with_reducible rfl) ?_
              refine wpS_take HSS9 (by kernel_rfl) (by intro V hV; have j0 := hV.key.cell 0; have j2 := hV.key.cell 2; have k0 := hV.b0.cell 0; have k1 := hV.b1.cell 0; have k5 := hV.b5.cell 0; obtain ⟨d0, d1, d2, d3, d4, d5, d6, d7⟩ := HY.out V hV.bel; clear hV; simp only [List.getElem?_toArray, List.getElem?_cons_zero, List.getElem?_cons_succ] at j0 j2 k0 k1 k5; go_simp; try with_reducible rfl) ?_
              refine wpS_take HSS9 (by kernel_rfl) (by intro V hV; have j0 := hV.key.cell 0; have j2 := hV.key.cell 2; have k0 := hV.b0.cell 0; have k1 := hV.b1.cell 0; have k5 := hV.b5.cell 0; obtain ⟨d0, d1, d2, d3, d4, d5, d6, d7⟩ := HY.out V hV.bel; clear hV; simp only [List.getElem?_toArray, List.getElem?_cons_zero, List.getElem?_cons_succ] at j0 j2 k0 k1 k5; go_simp; try with_reducible rfl) ?_
              refine wpS_take HSS9 (by kernel_rfl) (by intro V hV; have j0 := hV.key.cell 0; have j2 := hV.key.cell 2; have k0 := hV.b0.cell 0; have k1 := hV.b1.cell 0; have k5 := hV.b5.cell 0; obtain ⟨d0, d1, d2, d3, d4, d5, d6, d7⟩ := HY.out V hV.bel; clear hV; simp only [List.getElem?_toArray, List.getElem?_cons_zero, List.getElem?_cons_succ] at j0 j2 k0 k1 k5; go_simp; try with_reducible rfl) ?_
              refine wpS_take HSS9 (by kernel_rfl) (by intro V hV; have j0 := hV.key.cell 0; have j2 := hV.key.cell 2; have k0 := hV.b0.cell 0; have k1 := hV.b1.cell 0; have k5 := hV.b5.cell 0; obtain ⟨d0, d1, d2, d3, d4, d5, d6, d7⟩ := HY.out V hV.bel; clear hV; simp only [List.getElem?_toArray, List.getElem?_cons_zero, List.getElem?_cons_succ] at j0 j2 k0 k1 k5; go_simp; try with_reducible rfl) ?_
              refine wpS_take HSS9 (by kernel_rfl) (by intro V hV; have j0 := hV.key.cell 0; have j2 := hV.key.cell 2; have k0 := hV.b0.cell 0; have k1 := hV.b1.cell 0; have k5 := hV.b5.cell 0; obtain ⟨d0, d1, d2, d3, d4, d5, d6, d7⟩ := HY.out V hV.bel; clear hV; simp only [List.getElem?_toArray, List.getElem?_cons_zero, List.getElem?_cons_succ] at j0 j2 k0 k1 k5; go_simp; try with_reducible rfl) ?_
              go_simp
              rw [← HQ.out]
              have k2 := HDB9.out.b2.cell 0; have k3 := HDB9.out.b3.cell 0; have k4 := HDB9.out.b4.cell 0; have f2 := HDB9.out.b2.frozen 0; have f3 := HDB9.out.b3.frozen 0; have f4 := HDB9.out.b4.frozen 0
              simp only [List.getElem?_toArray, List.getElem?_cons_zero] at k2 k3 k4
              have HE : Hid (KeepsFrom w7.heap.size W (((w9.setCell ⟨g + 1 + 1, 0, none⟩ (.int .u32 (seqOf xs))).setCell ⟨g + 1 + 1 + 1, 0, none⟩ (.int .i64 N)).setCell ⟨g + 1 + 1 + 1 + 1, 0, none⟩ (.int .i64 0)) ∧ DB w (((w9.setCell ⟨g + 1 + 1, 0, none⟩ (.int .u32 (seqOf xs))).setCell ⟨g + 1 + 1 + 1, 0, none⟩ (.int .i64 N)).setCell ⟨g + 1 + 1 + 1 + 1, 0, none⟩ (.int .i64 0)) g (.slice (some a) (N + 16) c) (.int .i64 N) (.int .u32 (seqOf xs)) (.int .i64 N) (.int .i64 0) (.slice (some ⟨a.block, a.off + 16, none⟩) 8 (c - 16))) :=
                ⟨(KeepsFrom.of_below HB9.out).trans (((KeepsOthers.setCell _ _ _).trans ((KeepsOthers.setCell _ _ _).trans (KeepsOthers.setCell _ _ _))).from _), ((HDB9.out.set2 (.int .u32 (seqOf xs))).set3 (.int .i64 N)).set4 (.int .i64 0)⟩
              refine wpS_do fun K hK => ?_
              go_wp2
              refine hK.out _ _ (SS.of_db (HDB9.out.set2 (.int .u32 (seqOf xs))) (blk_set HSS9.out.key (by have h1 := HXB.out; have h2 := HB1.out.2.2; omega) _)) ?_
              clear hK K
              refine wpS_do fun K hK => ?_
              go_wp2
              refine hK.out _ _ (SS.of_db ((HDB9.out.set2 (.int .u32 (seqOf xs))).set3 (.int .i64 N)) (blk_set (blk_set HSS9.out.key (by have h1 := HXB.out; have h2 := HB1.out.2.2; omega) _) (by have h1 := HXB.out; have h2 := HB1.out.2.2; omega) _)) ?_
              clear hK K
              refine wpS_do fun K hK => ?_
              go_wp2
              refine hK.out _ _ (SS.of_db HE.out.2 (blk_set (blk_set (blk_set HSS9.out.key (by have h1 := HXB.out; have h2 := HB1.out.2.2; omega) _) (by have h1 := HXB.out; have h2 := HB1.out.2.2; omega) _) (by have h1 := HXB.out; have h2 := HB1.out.2.2; omega) _)) ?_
              clear hK K
              refine wpS_nil ?_
              try go_simp
              gi_wp2
              exact ⟨HE.out.1, ⟨rfl, _, List.mem_append.2 (.inr (List.mem_singleton.2 rfl)), hdk.out⟩, HE.out.2⟩
          · have HB3 : Hid (Below W.heap.size W (w2.alloc (.cells z16r 122)) ∧ Blk (w2.alloc (.cells z16r 122)) w2.heap.size 122 z16r ∧ W.heap.size ≤ w2.heap.size ∧ (fun V : World => SS w V g Bx #[.int .u8 id, .int .u16 kind, .slice S sn sc, .int .i64 sf, .int .i64 su, .int .i64 tf, .int .i64 tu] (.slice (some a) (N + 16) c) (.int .i64 N) (.slice (some ⟨a.block, a.off + 16, none⟩) 8 (c - 16))) (w2.alloc (.cells z16r 122))) :=
              ⟨HBd2.out.alloc HBd2.out.size _, Blk.new _ _ _, HBd2.out.size, HSS2.out.later ((Below.refl _ _).alloc (Nat.le_refl _) _)⟩
            go_wp2
            refine hK1.out _ _ HB3.out.2.2.2 ?_
            clear hK1 K1 HSS2 HBd2
            generalize w2.alloc (.cells z16r 122) = w3 at *
            generalize w2.heap.size = D at *
            go_wp2_with (go_at_call 74; refine (HKEY.out w3 HB3.out.2.2.2.bel).mono ?_; rintro e w4 ⟨rfl, hb4⟩; have H4 := Lib.hid hb4; clear hb4)
            have HB4 : Hid (Below W.heap.size W w4 ∧ Blk w4 D 122 z16r ∧ W.heap.size ≤ D ∧ (fun V : World => SS w V g Bx #[.int .u8 id, .int .u16 kind, .slice S sn sc, .int .i64 sf, .int .i64 su, .int .i64 tf, .int .i64 tu] (.slice (some a) (N + 16) c) (.int .i64 N) (.slice (some ⟨a.block, a.off + 16, none⟩) 8 (c - 16))) w4 ∧ True) :=
              ⟨HB3.out.1.trans (H4.out.mono HB3.out.1.size), HB3.out.2.1.later H4.out, HB3.out.2.2.1, HB3.out.2.2.2.later H4.out, trivial⟩
            refine hK.out _ _ HB4.out.2.2.2.1 ?_
            clear hK K HB3 H4
            refine wpR_do fun K hK => ?_
            go_wp2_with (refine wpList_store_row rfl 122 _ _ rfl D (u8s (md (xs.take N ++ key16 bs))).toArray rfl rfl 122 _ HB4.out.2.1 (by rw [F16.out.1]; exact i27) (by rw [F16.out.1]; rfl) F16.out.2 ?_)
            have HB5 : Hid (Below W.heap.size W (w4.setRow D (u8s (md (xs.take N ++ key16 bs))).toArray) ∧ Blk (w4.setRow D (u8s (md (xs.take N ++ key16 bs))).toArray) D 122 (u8s (md (xs.take N ++ key16 bs))).toArray ∧ (fun V : World => SS w V g Bx #[.int .u8 id, .int .u16 kind, .slice S sn sc, .int .i64 sf, .int .i64 su, .int .i64 tf, .int .i64 tu] (.slice (some a) (N + 16) c) (.int .i64 N) (.slice (some ⟨a.block, a.off + 16, none⟩) 8 (c - 16))) (w4.setRow D (u8s (md (xs.take N ++ key16 bs))).toArray) ∧ Below w7.heap.size W (w4.setRow D (u8s (md (xs.take N ++ key16 bs))).toArray)) := by
              have h1 := below_setRow HB4.out.1 HB4.out.2.2.1 (u8s (md (xs.take N ++ key16 bs))).toArray
              exact ⟨h1, HB4.out.2.1.setRow _, SS.of_db (HOB.out.later h1) (by have := HB4.out.2.2.2.1.key; exact this.setRow_far (by have h5 := HXB.out; have h6 := HB4.out.2.2.1; omega) _), h1.mono hsz⟩
            refine hK.out _ _ HB5.out.2.2.1 ?_
            clear hK K HB4 HKEY
            generalize w4.setRow D (u8s (md (xs.take N ++ key16 bs))).toArray = w5 at *
            refine wpR_nil ?_
            try go_simp
            gi_wp2
            have HSS6 : Hid ((fun V : World => SS w V g Bx #[.int .u8 id, .int .u16 kind, .slice S sn sc, .int .i64 sf, .int .i64 su, .int .i64 tf, .int .i64 tu] (.slice (some a) (N + 16) c) (.int .i64 N) (.slice (some ⟨a.block, a.off + 16, none⟩) 8 (c - 16))) w5.drew) := HB5.out.2.2.1.later (Below.refl _ _).drew
            have HB6 : Hid (Below W.heap.size W w5.drew ∧ Reads w5.drew w5.drew.heap.size 1 (some ⟨D, 0, none⟩) 16 (u8s (md (xs.take N ++ key16 bs)))) := ⟨HB5.out.1.drew, by
              have h1 := (HB5.out.2.1.reads (n := 16) (by rw [u8s_length, md_len]; omega))
              rw [List.take_of_length_le (by rw [u8s_length, md_len]; omega)] at h1
              exact h1.more HB5.out.2.1.lt⟩
            refine wpIn_round_s (fun V : World => SS w V g Bx #[.int .u8 id, .int .u16 kind, .slice S sn sc, .int .i64 sf, .int .i64 su, .int .i64 tf, .int .i64 tu] (.slice (some a) (N + 16) c) (.int .i64 N) (.slice (some ⟨a.block, a.off + 16, none⟩) 8 (c - 16))) [(0, true), (1, true), (2, true), (3, true), (4, false)] (by kernel_rfl) (fun _ d _ _ _ h => by cases d <;> exact h) (fun _ _ h => h) ?_
            simp only [List.map_cons, List.map_nil, nthOp_zero, nthOp_succ]
            clear HB5
            generalize w5.drew = w6 at *
            refine wpS_take HSS6 (by kernel_rfl) (by intro V hV; have j0 := hV.key.cell 0; have j2 := hV.key.cell 2; have k0 := hV.b0.cell 0; have k1 := hV.b1.cell 0; have k5 := hV.b5.cell 0; obtain ⟨d0, d1, d2, d3, d4, d5, d6, d7⟩ := HY.out V hV.bel; clear hV; simp only [List.getElem?_toArray, List.getElem?_cons_zero, List.getElem?_cons_succ] at j0 j2 k0 k1 k5; go_simp; try with_reducible rfl) ?_
            refine wpS_take HSS6 (by kernel_rfl) (by intro V hV; have j0 := hV.key.cell 0; have j2 := hV.key.cell 2; have k0 := hV.b0.cell 0; have k1 := hV.b1.cell 0; have k5 := hV.b5.cell 0; obtain ⟨d0, d1, d2, d3, d4, d5, d6, d7⟩ := HY.out V hV.bel; clear hV; simp only [List.getElem?_toArray, List.getElem?_cons_zero, List.getElem?_cons_succ] at j0 j2 k0 k1 k5; go_simp; try with_reducible rfl) ?_
            refine wpS_take HSS6 (by kernel_rfl) (by intro V hV; have j0 := hV.key.cell 0; have j2 := hV.key.cell 2; have k0 := hV.b0.cell 0; have k1 := hV.b1.cell 0; have k5 := hV.b5.cell 0; obtain ⟨d0, d1, d2, d3, d4, d5, d6, d7⟩ := HY.out V hV.bel; clear hV; simp only [List.getElem?_toArray, List.getElem?_cons_zero, List.getElem?_cons_succ] at j0 j2 k0 k1 k5; go_simp; try with_reducible rfl) ?_
            refine wpS_take HSS6 (by kernel_rfl) (by intro V hV; have j0 := hV.key.cell 0; have j2 := hV.key.cell 2; have k0 := hV.b0.cell 0; have k1 := hV.b1.cell 0; have k5 := hV.b5.cell 0; obtain ⟨d0, d1, d2, d3, d4, d5, d6, d7⟩ := HY.out V hV.bel; clear hV; simp only [List.getElem?_toArray, List.getElem?_cons_zero, List.getElem?_cons_succ] at j0 j2 k0 k1 k5; go_simp; try with_reducible rfl) ?_
            go_simp
            have HSm := Lib.hid (toBelow (same_any (some ⟨D, 0, none⟩) (some (a.add N)) 16 16 16 (c - N) (md (xs.take N ++ key16 bs)) (xs.drop N) w6 w6.heap.size w6.heap.size HB6.out.2 (by
              have h1 := (HXl.out _ HSS6.out.bel).u8cut (k := N) (cap := c) (by omega) (by omega)
              rw [if_neg hcN] at h1
              rwa [show N + 16 - N = 16 by omega] at h1) (md_oct _) (HO.out.drop N) (by omega) (by omega)))
            rw [← hbb.out] at HSm
            refine wpS_do fun K hK => ?_
            go_wp2_with (go_at_call 92; refine HSm.out.mono ?_; rintro e w8 ⟨rfl, hb8⟩; have H8 := Lib.hid hb8; clear hb8)
            have HSS8 : Hid ((fun V : World => SS w V g Bx #[.int .u8 id, .int .u16 kind, .slice S sn sc, .int .i64 sf, .int .i64 su, .int .i64 tf, .int .i64 tu] (.slice (some a) (N + 16) c) (.int .i64 N) (.slice (some ⟨a.block, a.off + 16, none⟩) 8 (c - 16))) w8) := HSS6.out.later H8.out
            have HB8 := Lib.hid (HB6.out.1.trans (H8.out.mono HB6.out.1.size))
            refine hK.out _ _ HSS8.out ?_
            clear hK K HSm HSS6 HB6 H8
            refine wpS_nil ?_
            try go_simp
            cases bb
            · gi_wp2
              exact ⟨KeepsFrom.of_below HB8.out, HB8.out.mono hsz, HNO.out.next hdk.out, HOB.out.later HB8.out, Nat.le_trans hsz HB8.out.size⟩
            · gi_wp2
              have HDB9 : Hid (DB w w8.drew g (.slice (some a) (N + 16) c) (.int .i64 N) (.int .u32 0) (.int .i64 0) (.int .i64 0) (.slice (some ⟨a.block, a.off + 16, none⟩) 8 (c - 16))) := (HOB.out.later HB8.out).drew
              have HSS9 : Hid ((fun V : World => SS w V g Bx #[.int .u8 id, .int .u16 kind, .slice S sn sc, .int .i64 sf, .int .i64 su, .int .i64 tf, .int .i64 tu] (.slice (some a) (N + 16) c) (.int .i64 N) (.slice (some ⟨a.block, a.off + 16, none⟩) 8 (c - 16))) w8.drew) := HSS8.out.later (Below.refl _ _).drew
              have HB9 : Hid (Below W.heap.size W w8.drew) := HB8.out.drew
              have HQ : Hid (seqOf xs = bits .or .u32 (bits .or .u32 (bits .or .u32 (y4 * 16777216) (y5 * 65536)) (y6 * 256)) y7) := by
                obtain ⟨_, _, _, _, e4, e5, e6, e7⟩ := HG.out
                show _ = _; unfold seqOf; rw [e4, e5, e6, e7]
              have z0 : IntKind.u32.wrap y4 = y4 := IntWalk.u32_in _ (by omega)
              have z1 : IntKind.u32.wrap y5 = y5 := IntWalk.u32_in _ (by omega)
              have z2 : IntKind.u32.wrap y6 = y6 := IntWalk.u32_in _ (by omega)
              have z3 : IntKind.u32.wrap y7 = y7 := IntWalk.u32_in _ (by omega)
              have z4 : IntKind.u32.wrap (y4 * 16777216) = y4 * 16777216 := IntWalk.u32_in _ (by omega)
              have z5 : IntKind.u32.wrap (y5 * 65536) = y5 * 65536 := IntWalk.u32_in _ (by omega)
              have z6 : IntKind.u32.wrap (y6 * 256) = y6 * 256 := IntWalk.u32_in _ (by omega)
              refine wpIn_round_s (fun V : World => SS w V g Bx #[.int .u8 id, .int .u16 kind, .slice S sn sc, .int .i64 sf, .int .i64 su, .int .i64 tf, .int .i64 tu] (.slice (some a) (N + 16) c) (.int .i64 N) (.slice (some ⟨a.block, a.off + 16, none⟩) 8 (c - 16))) [(0, true), (1, true), (2, true), (3, true), (4, true), (5, true), (6, true), (7, true), (8, true), (9, true), (10, true), (11, true), (12, true), (13, true), (14, true), (15, true), (16, true), (17, true), (18, true), (19, true), (20, true), (21, true), (22, true), (23, false), (24, false), (25, false)] (by kernel_rfl) (fun _ d _ _ _ h => by cases d <;> exact h) (fun _ _ h => h) ?_
              simp only [List.map_cons, List.map_nil, nthOp_zero, nthOp_succ]
              clear HSS8 HB8
              generalize w8.drew = w9 at *
              refine wpS_take HSS9 (by kernel_rfl) (by intro V hV; have j0 := hV.key.cell 0; have j2 := hV.key.cell 2; have k0 := hV.b0.cell 0; have k1 := hV.b1.cell 0; have k5 := hV.b5.cell 0; obtain ⟨d0, d1, d2, d3, d4, d5, d6, d7⟩ := HY.out V hV.bel; clear hV; simp only [List.getElem?_toArray, List.getElem?_cons_zero, List.getElem?_cons_succ] at j0 j2 k0 k1 k5; go_simp; try with_reducible rfl) ?_
              refine wpS_take HSS9 (by kernel_rfl) (by intro V hV; have j0 := hV.key.cell 0; have j2 := hV.key.cell 2; have k0 := hV.b0.cell 0; have k1 := hV.b1.cell 0; have k5 := hV.b5.cell 0; obtain ⟨d0, d1, d2, d3, d4, d5, d6, d7⟩ := HY.out V hV.bel; clear hV; simp only [List.getElem?_toArray, List.getElem?_cons_zero, List.getElem?_cons_succ] at j0 j2 k0 k1 k5; go_simp; try with_reducible rfl) ?_
              refine wpS_take HSS9 (by kernel_rfl) (by intro V hV; have j0 := hV.key.cell 0; have j2 := hV.key.cell 2; have k0 := hV.b0.cell 0; have k1 := hV.b1.cell 0; have k5 := hV.b5.cell 0; obtain ⟨d0, d1, d2, d3, d4, d5, d6, d7⟩ := HY.out V hV.bel; clear hV; simp only [List.getElem?_toArray, List.getElem?_cons_zero, List.getElem?_cons_succ] at j0 j2 k0 k1 k5; go_simp; try with_reducible rfl) ?_
              refine wpS_take HSS9 (by kernel_rfl) (by intro V hV; have j0 := hV.key.cell 0; have j2 := hV.key.cell 2; have k0 := hV.b0.cell 0; have k1 := hV.b1.cell 0; have k5 := hV.b5.cell 0; obtain ⟨d0, d1, d2, d3, d4, d5, d6, d7⟩ := HY.out V hV.bel; clear hV; simp only [List.getElem?_toArray, List.getElem?_cons_zero, List.getElem?_cons_succ] at j0 j2 k0 k1 k5; go_simp; try with_reducible rfl) ?_
              refine wpS_take HSS9 (by kernel_rfl) (by intro V hV; have j0 := hV.key.cell 0; have j2 := hV.key.cell 2; have k0 := hV.b0.cell 0; have k1 := hV.b1.cell 0; have k5 := hV.b5.cell 0; obtain ⟨d0, d1, d2, d3, d4, d5, d6, d7⟩ := HY.out V hV.bel; clear hV; simp only [List.getElem?_toArray, List.getElem?_cons_zero, List.getElem?_cons_succ] at j0 j2 k0 k1 k5; go_simp; try with_reducible rfl) ?_
              refine wpS_take HSS9 (by kernel_rfl) (by intro V hV; have j0 := hV.key.cell 0; have j2 := hV.key.cell 2; have k0 := hV.b0.cell 0; have k1 := hV.b1.cell 0; have k5 := hV.b5.cell 0; obtain ⟨d0, d1, d2, d3, d4, d5, d6, d7⟩ := HY.out V hV.bel; clear hV; simp only [List.getElem?_toArray, List.getElem?_cons_zero, List.getElem?_cons_succ] at j0 j2 k0 k1 k5; go_simp; try with_reducible rfl) ?_
              refine wpS_take HSS9 (by kernel_rfl) (by intro V hV; have j0 := hV.key.cell 0; have j2 := hV.key.cell 2; have k0 := hV.b0.cell 0; have k1 := hV.b1.cell 0; have k5 := hV.b5.cell 0; obtain ⟨d0, d1, d2, d3, d4, d5, d6, d7⟩ := HY.out V hV.bel; clear hV; simp only [List.getElem?_toArray, List.getElem?_cons_zero, List.getElem?_cons_succ] at j0 j2 k0 k1 k5; go_simp; try with_reducible rfl) ?_
              refine wpS_take HSS9 (by kernel_rfl) (by intro V hV; have j0 := hV.key.cell 0; have j2 := hV.key.cell 2; have k0 := hV.b0.cell 0; have k1 := hV.b1.cell 0; have k5 := hV.b5.cell 0; obtain ⟨d0, d1, d2, d3, d4, d5, d6, d7⟩ := HY.out V hV.bel; clear hV; simp only [List.getElem?_toArray, List.getElem?_cons_zero, List.getElem?_cons_succ] at j0 j2 k0 k1 k5; go_simp; try with_reducible rfl) ?_
              refine wpS_take HSS9 (by kernel_rfl) (by intro V hV; have j0 := hV.key.cell 0; have j2 := hV.key.cell 2; have k0 := hV.b0.cell 0; have k1 := hV.b1.cell 0; have k5 := hV.b5.cell 0; obtain ⟨d0, d1, d2, d3, d4, d5, d6, d7⟩ := HY.out V hV.bel; clear hV; simp only [List.getElem?_toArray, List.getElem?_cons_zero, List.getElem?_cons_succ] at j0 j2 k0 k1 k5; go_simp; try with_reducible rfl) ?_
              refine wpS_take HSS9 (by kernel_rfl) (by intro V hV; have j0 := hV.key.cell 0; have j2 := hV.key.cell 2; have k0 := hV.b0.cell 0; have k1 := hV.b1.cell 0; have k5 := hV.b5.cell 0; obtain ⟨d0, d1, d2, d3, d4, d5, d6, d7⟩ := HY.out V hV.bel; clear hV; simp only [List.getElem?_toArray, List.getElem?_cons_zero, List.getElem?_cons_succ] at j0 j2 k0 k1 k5; go_simp; try with_reducible rfl) ?_
              refine wpS_take HSS9 (by kernel_rfl) (by intro V hV; have j0 := hV.key.cell 0; have j2 := hV.key.cell 2; have k0 := hV.b0.cell 0; have k1 := hV.b1.cell 0; have k5 := hV.b5.cell 0; obtain ⟨d0, d1, d2, d3, d4, d5, d6, d7⟩ := HY.out V hV.bel; clear hV; simp only [List.getElem?_toArray, List.getElem?_cons_zero, List.getElem?_cons_succ] at j0 j2 k0 k1 k5; go_simp; try with_reducible rfl) ?_
              refine wpS_take HSS9 (by kernel_rfl) (by intro V hV; have j0 := hV.key.cell 0; have j2 := hV.key.cell 2; have k0 := hV.b0.cell 0; have k1 := hV.b1.cell 0; have k5 := hV.b5.cell 0; obtain ⟨d0, d1, d2, d3, d4, d5, d6, d7⟩ := HY.out V hV.bel; clear hV; simp only [List.getElem?_toArray, List.getElem?_cons_zero, List.getElem?_cons_succ] at j0 j2 k0 k1 k5; go_simp; try with_reducible rfl) ?_
              refine wpS_take HSS9 (by kernel_rfl) (by intro V hV; have j0 := hV.key.cell 0; have j2 := hV.key.cell 2; have k0 := hV.b0.cell 0; have k1 := hV.b1.cell 0; have k5 := hV.b5.cell 0; obtain ⟨d0, d1, d2, d3, d4, d5, d6, d7⟩ := HY.out V hV.bel; clear hV; simp only [List.getElem?_toArray, List.getElem?_cons_zero, List.getElem?_cons_succ] at j0 j2 k0 k1 k5; go_simp; try with_reducible rfl) ?_
              refine wpS_take HSS9 (by kernel_rfl) (by intro V hV; have j0 := hV.key.cell 0; have j2 := hV.key.cell 2; have k0 := hV.b0.cell 0; have k1 := hV.b1.cell 0; have k5 := hV.b5.cell 0; obtain ⟨d0, d1, d2, d3, d4, d5, d6, d7⟩ := HY.out V hV.bel; clear hV; simp only [List.getElem?_toArray, List.getElem?_cons_zero, List.getElem?_cons_succ] at j0 j2 k0 k1 k5; go_simp; try with_reducible rfl) ?_
              refine wpS_take HSS9 (by kernel_rfl) (by intro V hV; have j0 := hV.key.cell 0; have j2 := hV.key.cell 2; have k0 := hV.b0.cell 0; have k1 := hV.b1.cell 0; have k5 := hV.b5.cell 0; obtain ⟨d0, d1, d2, d3, d4, d5, d6, d7⟩ := HY.out V hV.bel; clear hV; simp only [List.getElem?_toArray, List.getElem?_cons_zero, List.getElem?_cons_succ] at j0 j2 k0 k1 k5; go_simp; try with_reducible rfl) ?_
              refine wpS_take HSS9 (by kernel_rfl) (by intro V hV; have j0 := hV.key.cell 0; have j2 := hV.key.cell 2; have k0 := hV.b0.cell 0; have k1 := hV.b1.cell 0; have k5 := hV.b5.cell 0; obtain ⟨d0, d1, d2, d3, d4, d5, d6, d7⟩ := HY.out V hV.bel; clear hV; simp only [List.getElem?_toArray, List.getElem?_cons_zero, List.getElem?_cons_succ] at j0 j2 k0 k1 k5; go_simp; try with_reducible rfl) ?_
              refine wpS_take HSS9 (by kernel_rfl) (by intro V hV; have j0 := hV.key.cell 0; have j2 := hV.key.cell 2; have k0 := hV.b0.cell 0; have k1 := hV.b1.cell 0; have k5 := hV.b5.cell 0; obtain ⟨d0, d1, d2, d3, d4, d5, d6, d7⟩ := HY.out V hV.bel; clear hV; simp only [List.getElem?_toArray, List.getElem?_cons_zero, List.getElem?_cons_succ] at j0 j2 k0 k1 k5; go_simp; try with_reducible rfl) ?_
              refine wpS_take HSS9 (by kernel_rfl) (by intro V hV; have j0 := hV.key.cell 0; have j2 := hV.key.cell 2; have k0 := hV.b0.cell 0; have k1 := hV.b1.cell 0; have k5 := hV.b5.cell 0; obtain ⟨d0, d1, d2, d3, d4, d5, d6, d7⟩ := HY.out V hV.bel; clear hV; simp only [List.getElem?_toArray, List.getElem?_cons_zero, List.getElem?_cons_succ] at j0 j2 k0 k1 k5; go_simp; try with_reducible rfl) ?_
              refine wpS_take HSS9 (by kernel_rfl) (by intro V hV; have j0 := hV.key.cell 0; have j2 := hV.key.cell 2; have k0 := hV.b0.cell 0; have k1 := hV.b1.cell 0; have k5 := hV.b5.cell 0; obtain ⟨d0, d1, d2, d3, d4, d5, d6, d7⟩ := HY.out V hV.bel; clear hV; simp only [List.getElem?_toArray, List.getElem?_cons_zero, List.getElem?_cons_succ] at j0 j2 k0 k1 k5; go_simp; try with_reducible rfl) ?_
              refine wpS_take HSS9 (by kernel_rfl) (by intro V hV; have j0 := hV.key.cell 0; have j2 := hV.key.cell 2; have k0 := hV.b0.cell 0; have k1 := hV.b1.cell 0; have k5 := hV.b5.cell 0; obtain ⟨d0, d1, d2, d3, d4, d5, d6, d7⟩ := HY.out V hV.bel; clear hV; simp only [List.getElem?_toArray, List.getElem?_cons_zero, List.getElem?_cons_succ] at j0 j2 k0 k1 k5; go_simp; try with_reducible rfl) ?_
              refine wpS_take HSS9 (by kernel_rfl) (by intro V hV; have j0 := hV.key.cell 0; have j2 := hV.key.cell 2; have k0 := hV.b0.cell 0; have k1 := hV.b1.cell 0; have k5 := hV.b5.cell 0; obtain ⟨d0, d1, d2, d3, d4, d5, d6, d7⟩ := HY.out V hV.bel; clear hV; simp only [List.getElem?_toArray, List.getElem?_cons_zero, List.getElem?_cons_succ] at j0 j2 k0 k1 k5; go_simp; try with_reducible rfl) ?_
              refine wpS_take HSS9 (by kernel_rfl) (by intro V hV; have j0 := hV.key.cell 0; have j2 := hV.key.cell 2; have k0 := hV.b0.cell 0; have k1 := hV.b1.cell 0; have k5 := hV.b5.cell 0; obtain ⟨d0, d1, d2, d3, d4, d5, d6, d7⟩ := HY.out V hV.bel; clear hV; simp only [List.getElem?_toArray, List.getElem?_cons_zero, List.getElem?_cons_succ] at j0 j2 k0 k1 k5; go_simp; try with_reducible rfl) ?_
              refine wpS_take HSS9 (by kernel_rfl) (by intro V hV; have j0 := hV.key.cell 0; have j2 := hV.key.cell 2; have k0 := hV.b0.cell 0; have k1 := hV.b1.cell 0; have k5 := hV.b5.cell 0; obtain ⟨d0, d1, d2, d3, d4, d5, d6, d7⟩ := HY.out V hV.bel; clear hV; simp only [List.getElem?_toArray, List.getElem?_cons_zero, List.getElem?_cons_succ] at j0 j2 k0 k1 k5; go_simp; try with_reducible rfl) ?_
              go_simp
              rw [← HQ.out]
              have k2 := HDB9.out.b2.cell 0; have k3 := HDB9.out.b3.cell 0; have k4 := HDB9.out.b4.cell 0; have f2 := HDB9.out.b2.frozen 0; have f3 := HDB9.out.b3.frozen 0; have f4 := HDB9.out.b4.frozen 0
              simp only [List.getElem?_toArray, List.getElem?_cons_zero] at k2 k3 k4
              have HE : Hid (KeepsFrom w7.heap.size W (((w9.setCell ⟨g + 1 + 1, 0, none⟩ (.int .u32 (seqOf xs))).setCell ⟨g + 1 + 1 + 1, 0, none⟩ (.int .i64 N)).setCell ⟨g + 1 + 1 + 1 + 1, 0, none⟩ (.int .i64 0)) ∧ DB w (((w9.setCell ⟨g + 1 + 1, 0, none⟩ (.int .u32 (seqOf xs))).setCell ⟨g + 1 + 1 + 1, 0, none⟩ (.int .i64 N)).setCell ⟨g + 1 + 1 + 1 + 1, 0, none⟩ (.int .i64 0)) g (.slice (some a) (N + 16) c) (.int .i64 N) (.int .u32 (seqOf xs)) (.int .i64 N) (.int .i64 0) (.slice (some ⟨a.block, a.off + 16, none⟩) 8 (c - 16))) :=
                ⟨(KeepsFrom.of_below HB9.out).trans (((KeepsOthers.setCell _ _ _).trans ((KeepsOthers.setCell _ _ _).trans (KeepsOthers.setCell _ _ _))).from _), ((HDB9.out.set2 (.int .u32 (seqOf xs))).set3 (.int .i64 N)).set4 (.int .i64 0)⟩
              refine wpS_do fun K hK => ?_
              go_wp2
              refine hK.out _ _ (SS.of_db (HDB9.out.set2 (.int .u32 (seqOf xs))) (blk_set HSS9.out.key (by have h1 := HXB.out; have h2 := HB1.out.2.2; omega) _)) ?_
              clear hK K
              refine wpS_do fun K hK => ?_
              go_wp2
              refine hK.out _ _ (SS.of_db ((HDB9.out.set2 (.int .u32 (seqOf xs))).set3 (.int .i64 N)) (blk_set (blk_set HSS9.out.key (by have h1 := HXB.out; have h2 := HB1.out.2.2; omega) _) (by have h1 := HXB.out; have h2 := HB1.out.2.2; omega) _)) ?_
              clear hK K
              refine wpS_do fun K hK => ?_
              go_wp2
              refine hK.out _ _ (SS.of_db HE.out.2 (blk_set (blk_set (blk_set HSS9.out.key (by have h1 := HXB.out; have h2 := HB1.out.2.2; omega) _) (by have h1 := HXB.out; have h2 := HB1.out.2.2; omega) _) (by have h1 := HXB.out; have h2 := HB1.out.2.2; omega) _)) ?_
              clear hK K
              refine wpS_nil ?_
              try go_simp
              gi_wp2
              exact ⟨HE.out.1, ⟨rfl, _, List.mem_append.2 (.inr (List.mem_singleton.2 rfl)), hdk.out⟩, HE.out.2⟩
        · have q1' : (id == y2) = false := by simpa using q1
          have q1'' : (id != y2) = true := by simpa using q1
          have hdk : Hid (dgK xs N ⟨id, kind, S, sn, sc, sf, su, tf, tu, bs⟩ = false) := by show _ = _; unfold dgK; simp only [HGd.out]; simp [q1]
          gi_wp2
          exact ⟨KeepsFrom.of_below HBd.out, HBd.out.mono hsz, HNO.out.next hdk.out, HOB.out.later HBd.out, Nat.le_trans hsz HBd.out.size⟩
    · have gn' : ((n : Int) == (N : Int) + 16) = false := by simp; omega
      have gn'' : ((n : Int) != (N : Int) + 16) = true := by simp; omega
      have hr : Hid (digOf xs N L now = (0, 0, 22)) := by show _ = _; rw [hp.out, if_neg (by omega), if_pos gn]
      have H9 := Lib.hid (((H6.out.set2 (.int .u32 0)).set3 (.int .i64 0)).set4 (.int .i64 22))
      clear hp gn hl H6
      go_wp2_with fail
      generalize ((w0.setCell ⟨g + 1 + 1, 0, none⟩ (.int .u32 0)).setCell ⟨g + 1 + 1 + 1, 0, none⟩ (.int .i64 0)).setCell ⟨g + 1 + 1 + 1 + 1, 0, none⟩ (.int .i64 22) = W9 at *
      exact ⟨_, db_results H9.out rfl rfl rfl, dgAt ⟨rfl, by rw [hs0]; exact H9.out.bel⟩ hr.out⟩
  · have hr : Hid (digOf xs N L now = (0, 0, 24)) := by show _ = _; rw [hp.out, if_pos (by omega)]
    have H9 := Lib.hid (((H6.out.set2 (.int .u32 0)).set3 (.int .i64 0)).set4 (.int .i64 24))
    clear hp hl
    by_cases g0 : y0 = 0
    · subst g0
      by_cases g1 : y1 = 0
      · subst g1
        have g3 : y3 ≠ 16 := fun h => hbad ⟨rfl, rfl, h⟩
        have g3' : (y3 == 16) = false := by simpa using g3
        have g3'' : (y3 != 16) = true := by simpa using g3
        clear hbad g3
        go_wp2_with fail
        generalize ((w0.setCell ⟨g + 1 + 1, 0, none⟩ (.int .u32 0)).setCell ⟨g + 1 + 1 + 1, 0, none⟩ (.int .i64 0)).setCell ⟨g + 1 + 1 + 1 + 1, 0, none⟩ (.int .i64 24) = W9 at *
        exact ⟨_, db_results H9.out rfl rfl rfl, dgAt ⟨rfl, by rw [hs0]; exact H9.out.bel⟩ hr.out⟩
      · have g1' : (y1 == 0) = false := by simpa using g1
        have g1'' : (y1 != 0) = true := by simpa using g1
        clear hbad g1
        go_wp2_with fail
        generalize ((w0.setCell ⟨g + 1 + 1, 0, none⟩ (.int .u32 0)).setCell ⟨g + 1 + 1 + 1, 0, none⟩ (.int .i64 0)).setCell ⟨g + 1 + 1 + 1 + 1, 0, none⟩ (.int .i64 24) = W9 at *
        exact ⟨_, db_results H9.out rfl rfl rfl, dgAt ⟨rfl, by rw [hs0]; exact H9.out.bel⟩ hr.out⟩
    · have g0' : (y0 == 0) = false := by simpa using g0
      have g0'' : (y0 != 0) = true := by simpa using g0
      clear hbad g0
      go_wp2_with fail
      generalize ((w0.setCell ⟨g + 1 + 1, 0, none⟩ (.int .u32 0)).setCell ⟨g + 1 + 1 + 1, 0, none⟩ (.int .i64 0)).setCell ⟨g + 1 + 1 + 1 + 1, 0, none⟩ (.int .i64 24) = W9 at *
      exact ⟨_, db_results H9.out rfl rfl rfl, dgAt ⟨rfl, by rw [hs0]; exact H9.out.bel⟩ hr.out⟩
end Go.Proofs.Ytkgdeneonobibaa
