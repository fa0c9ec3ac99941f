/-
  auth.Open with a password, walked whole.
-/
import Derived.Test.YtkgdeneonobibaaAut10
import Derived.Laws.Cover3
import Derived.Test.YtkgdeneonobibaaAut8
import Derived.Test.YtkgdeneonobibaaArrEq
namespace Go.Proofs.Ytkgdeneonobibaa
set_option linter.unusedVariables false
open Go.RowKit Go.Shelf
attribute [local go_sem] Oper.semAt_some

theorem taken_any (A : Option Addr) (m c : Nat) (now : Int) (w : World) : Calls Try.prog 45 #[.slice A m c, .int .i64 now] w fun e w' =>
    e = .returned (.func (.func 93) #[] #[.pointer (some ⟨w.heap.size, 0, none⟩), .pointer (some ⟨w.heap.size + 1, 0, none⟩)]) ∧ w' = (w.alloc (.cells #[.slice A m c] 22)).alloc (.cells #[.int .i64 now] 3) := by
  go_enter Try.func45, Try.ntmps45
  go_wp2
  go_ret
  exact ⟨rfl, rfl⟩
/-- The four boxes of Open. -/
structure OB (w W : World) (g : Nat) (sl v6 v7 v8 : Value) : Prop where
  b0 : Blk W g 32 #[sl]
  b1 : Blk W (g + 1) 34 #[v6]
  b2 : Blk W (g + 1 + 1) 3 #[v7]
  b3 : Blk W (g + 1 + 1 + 1) 26 #[v8]
  bel : Below g w W
theorem OB.later {w W W' : World} {g : Nat} {sl v6 v7 v8 : Value} (h : OB w W g sl v6 v7 v8) (hb : Below W.heap.size W W') : OB w W' g sl v6 v7 v8 :=
  ⟨h.b0.later hb, h.b1.later hb, h.b2.later hb, h.b3.later hb, h.bel.trans (hb.mono (Nat.le_of_lt h.b0.lt))⟩
theorem OB.drewN {w W : World} {g : Nat} {sl v6 v7 v8 : Value} (h : OB w W g sl v6 v7 v8) (d : Nat) : OB w (W.drewN d) g sl v6 v7 v8 := ⟨h.b0, h.b1, h.b2, h.b3, below_drewN h.bel d⟩
theorem OB.set7 {w W : World} {g : Nat} {sl v6 v7 v8 : Value} (h : OB w W g sl v6 v7 v8) (u : Value) : OB w (W.setCell ⟨g + 1 + 1, 0, none⟩ u) g sl v6 u v8 :=
  ⟨h.b0.far (p := ⟨g + 1 + 1, 0, none⟩) (by simp <;> omega) _, h.b1.far (p := ⟨g + 1 + 1, 0, none⟩) (by simp) _, h.b2.set_ 0 u, h.b3.far (p := ⟨g + 1 + 1, 0, none⟩) (by simp) _, h.bel.setCell (p := ⟨g + 1 + 1, 0, none⟩) (by simp <;> omega) _⟩
theorem OB.set8 {w W : World} {g : Nat} {sl v6 v7 v8 : Value} (h : OB w W g sl v6 v7 v8) (u : Value) : OB w (W.setCell ⟨g + 1 + 1 + 1, 0, none⟩ u) g sl v6 v7 u :=
  ⟨h.b0.far (p := ⟨g + 1 + 1 + 1, 0, none⟩) (by simp <;> omega) _, h.b1.far (p := ⟨g + 1 + 1 + 1, 0, none⟩) (by simp <;> omega) _, h.b2.far (p := ⟨g + 1 + 1 + 1, 0, none⟩) (by simp) _, h.b3.set_ 0 u, h.bel.setCell (p := ⟨g + 1 + 1 + 1, 0, none⟩) (by simp <;> omega) _⟩
theorem OB.set6 {w W : World} {g : Nat} {sl v6 v7 v8 : Value} (h : OB w W g sl v6 v7 v8) (u : Value) : OB w (W.setCell ⟨g + 1, 0, none⟩ u) g sl u v7 v8 :=
  ⟨h.b0.far (p := ⟨g + 1, 0, none⟩) (by simp) _, h.b1.set_ 0 u, h.b2.far (p := ⟨g + 1, 0, none⟩) (by simp) _, h.b3.far (p := ⟨g + 1, 0, none⟩) (by simp <;> omega) _, h.bel.setCell (p := ⟨g + 1, 0, none⟩) (by simp) _⟩
theorem four_new (w : World) (sl : Value) : OB w ((((w.alloc (.cells #[sl] 32)).alloc (.cells #[.int .u32 0] 34)).alloc (.cells #[.int .i64 0] 3)).alloc (.cells #[.int .i64 0] 26)) w.heap.size sl (.int .u32 0) (.int .i64 0) (.int .i64 0) := by
  have h1 : Blk ((w.alloc (.cells #[sl] 32)).alloc (.cells #[.int .u32 0] 34)) (w.heap.size + 1) 34 #[.int .u32 0] := new_at _ _ _
  have h2 := Blk.new ((w.alloc (.cells #[sl] 32)).alloc (.cells #[.int .u32 0] 34)) 3 #[.int .i64 0]
  have h3 := Blk.new (((w.alloc (.cells #[sl] 32)).alloc (.cells #[.int .u32 0] 34)).alloc (.cells #[.int .i64 0] 3)) 26 #[.int .i64 0]
  simp only [World.size_alloc] at h2 h3
  exact ⟨(((Blk.new _ _ _).alloc _).alloc _).alloc _, (h1.alloc _).alloc _, h2.alloc _, h3, ((((Below.refl _ _).alloc (Nat.le_refl _) _).alloc (by rw [World.size_alloc]; omega) _).alloc (by rw [World.size_alloc, World.size_alloc]; omega) _).alloc (by rw [World.size_alloc, World.size_alloc, World.size_alloc]; omega) _⟩

theorem below_two_ (w : World) (A B : Obj) : Below w.heap.size w ((w.alloc A).alloc B) := ((Below.refl _ _).alloc (Nat.le_refl _) _).alloc (by rw [World.size_alloc]; omega) _
theorem OB.own {w : World} {g B : Nat} {sl v6 v7 v8 : Value} (hB : g + 1 + 1 + 1 < B) {β : Type} : OwnFrom B (fun (_ : β) W => OB w W g sl v6 v7 v8) := by
  intro s W W' row h hg hr
  have ne : ∀ k, k < B → some k ≠ row := fun k hk e => by have := (hr k e.symm).1; omega
  refine ⟨h.b0.grown hg (ne _ (by omega)), h.b1.grown hg (ne _ (by omega)), h.b2.grown hg (ne _ (by omega)), h.b3.grown hg (ne _ hB), ?_⟩
  exact h.bel.grown hg (Nat.le_of_lt h.b0.lt) (fun k e => by have := (hr k e).1; omega)
theorem blk_own {B g : Nat} {t : TypeId} {cs : Array Value} {β : Type} : OwnFrom B (fun (_ : β) W => Blk W g t cs) := by
  intro s W W' row h hg hr
  refine h.grown hg (fun e => ?_)
  obtain ⟨_, o, ho, hc⟩ := hr g e.symm
  have : some o = some (Obj.cells cs t) := ho.symm.trans h
  injection this with this
  subst this
  cases hc
theorem KeepsFrom.of_below {B : Nat} {W W' : World} (h : Below W.heap.size W W') : KeepsFrom B W W' := ⟨h.size, fun k o _ hk _ => (h.block k (Array.getElem?_eq_some_iff.1 hk).1).trans hk⟩
def opOut (xs : List Int) (L : List AK) (now : Int) (N : Nat) : Value :=
  if (takenTo L now L.length).any (fun k => pw k.1.bs == (xs.drop 16).take 8) then .tuple #[.int .u32 0, .int .i64 N, .int .i64 0] else .tuple #[.int .u32 0, .int .i64 0, .int .i64 26]
theorem opOut_no {xs : List Int} {L : List AK} {now : Int} {N : Nat} (h : ∀ y : {k : AK // k ∈ L}, y ∈ takenTo L now L.length → (pw y.1.bs == (xs.drop 16).take 8) = false) : opOut xs L now N = .tuple #[.int .u32 0, .int .i64 0, .int .i64 26] := by
  unfold opOut
  rw [if_neg]
  intro h2
  obtain ⟨y, hy, h3⟩ := List.any_eq_true.1 h2
  rw [h y hy] at h3
  cases h3
theorem opOut_yes {xs : List Int} {L : List AK} {now : Int} {N : Nat} {pre : List {k : AK // k ∈ L}} (hp : pre <+: takenTo L now L.length) (h : ∃ y : {k : AK // k ∈ L}, y ∈ pre ∧ (pw y.1.bs == (xs.drop 16).take 8) = true) : opOut xs L now N = .tuple #[.int .u32 0, .int .i64 N, .int .i64 0] := by
  unfold opOut
  obtain ⟨y, hy, h3⟩ := h
  rw [if_pos (List.any_eq_true.2 ⟨y, hp.subset hy, h3⟩)]
theorem op_after {w W : World} {g D : Nat} {sl v6 v7 v8 : Value} (h : OB w W g sl v6 v7 v8) (hD : g + 1 + 1 + 1 < D) (hK : W.heap[D]? = some (.deferred (some []))) : OB w (W.putObj D (.deferred none)) g sl v6 v7 v8 :=
  OB.own (β := Unit) hD () W _ (some D) h (grownBy_putObj' _ D (.deferred none)) (fun r e => by cases e; exact ⟨Nat.le_refl _, _, hK, rfl⟩)
theorem op_results {w W : World} {g : Nat} {sl : Value} {x y z : Value} {ts : Array Value} (h : OB w W g sl x y z) (h6 : ts.getD 6 undef = .pointer (some ⟨g + 1, 0, none⟩)) (h7 : ts.getD 7 undef = .pointer (some ⟨g + 1 + 1, 0, none⟩)) (h8 : ts.getD 8 undef = .pointer (some ⟨g + 1 + 1 + 1, 0, none⟩)) :
    (results Try.f18 ts).run Try.prog W = .ok (.tuple #[x, y, z]) W := by
  have k1 := h.b1.cell 0; have k2 := h.b2.cell 0; have k3 := h.b3.cell 0
  simp only [List.getElem?_toArray, List.getElem?_cons_zero] at k1 k2 k3
  simp only [Array.getD_eq_getD_getElem?] at h6 h7 h8
  simp [results, Try.f18, go_sem, h6, h7, h8, k1, k2, k3]
theorem arr8_eq (xs ys : List Int) (hx : xs.length = 8) (hy : ys.length = 8) (w : World) : (binOp .eql 75 (.agg (u8s xs).toArray) (.agg (u8s ys).toArray)).run Try.prog w = .ok (.bool (xs == ys)) w :=
  run_eql_ints (P := Try.prog) w 75 5 8 .u8 Try.underlying75 Try.underlying5 (fun _ => by kernel_rfl) xs ys hx hy
theorem take8 {zs : List Int} {y0 y1 y2 y3 y4 y5 y6 y7 : Int} (h0 : zs[0]? = some y0) (h1 : zs[1]? = some y1) (h2 : zs[2]? = some y2) (h3 : zs[3]? = some y3) (h4 : zs[4]? = some y4) (h5 : zs[5]? = some y5) (h6 : zs[6]? = some y6) (h7 : zs[7]? = some y7) :
    zs.take 8 = [y0, y1, y2, y3, y4, y5, y6, y7] := by
  rcases zs with _ | ⟨a0, _ | ⟨a1, _ | ⟨a2, _ | ⟨a3, _ | ⟨a4, _ | ⟨a5, _ | ⟨a6, _ | ⟨a7, r⟩⟩⟩⟩⟩⟩⟩⟩ <;> simp at h0 h1 h2 h3 h4 h5 h6 h7
  subst h0 h1 h2 h3 h4 h5 h6 h7
  rfl
theorem data1 {w W : World} {g n k : Nat} {xa : Addr} {xs : List Int} {y : Int} (hx : Reads w g 1 (some xa) n (u8s xs)) (hy : xs[16 + k]? = some y) (h : Below g w W) : W.cell? ⟨xa.block, xa.off + 16 + k, none⟩ = some (.int .u8 y) := by
  have hn : 16 + k < n := by have := hx.u8len; have := (List.getElem?_eq_some_iff.1 hy).1; omega
  obtain ⟨a, u, e, _, hu, hc⟩ := (hx.below h).u8atc (k := 16 + k) hn (by omega)
  injection e with e; subst e
  have : some u = some y := hu.out.symm.trans hy
  injection this with this; subst this
  rw [Nat.add_assoc]
  exact hc
theorem data8 {w : World} {g n : Nat} {xa : Addr} {xs : List Int} (hx : Reads w g 1 (some xa) n (u8s xs)) (hn : 24 ≤ n) : ∃ y0 y1 y2 y3 y4 y5 y6 y7 : Int, (xs.drop 16).take 8 = [y0, y1, y2, y3, y4, y5, y6, y7] ∧ ∀ W : World, Below g w W →
    W.cell? ⟨xa.block, xa.off + 16, none⟩ = some (.int .u8 y0) ∧ W.cell? ⟨xa.block, xa.off + 16 + 1, none⟩ = some (.int .u8 y1) ∧ W.cell? ⟨xa.block, xa.off + 16 + 2, none⟩ = some (.int .u8 y2) ∧ W.cell? ⟨xa.block, xa.off + 16 + 3, none⟩ = some (.int .u8 y3) ∧
    W.cell? ⟨xa.block, xa.off + 16 + 4, none⟩ = some (.int .u8 y4) ∧ W.cell? ⟨xa.block, xa.off + 16 + 5, none⟩ = some (.int .u8 y5) ∧ W.cell? ⟨xa.block, xa.off + 16 + 6, none⟩ = some (.int .u8 y6) ∧ W.cell? ⟨xa.block, xa.off + 16 + 7, none⟩ = some (.int .u8 y7) := by
  have hl := hx.u8len
  have ex : ∀ k, k < 8 → ∃ y, xs[16 + k]? = some y := fun k hk => ⟨_, List.getElem?_eq_getElem (by omega)⟩
  obtain ⟨y0, h0⟩ := ex 0 (by decide); obtain ⟨y1, h1⟩ := ex 1 (by decide); obtain ⟨y2, h2⟩ := ex 2 (by decide); obtain ⟨y3, h3⟩ := ex 3 (by decide)
  obtain ⟨y4, h4⟩ := ex 4 (by decide); obtain ⟨y5, h5⟩ := ex 5 (by decide); obtain ⟨y6, h6⟩ := ex 6 (by decide); obtain ⟨y7, h7⟩ := ex 7 (by decide)
  have D : ∀ k y, xs[16 + k]? = some y → (xs.drop 16)[k]? = some y := fun k y h => by rw [List.getElem?_drop]; exact h
  exact ⟨y0, y1, y2, y3, y4, y5, y6, y7, take8 (D 0 _ h0) (D 1 _ h1) (D 2 _ h2) (D 3 _ h3) (D 4 _ h4) (D 5 _ h5) (D 6 _ h6) (D 7 _ h7), fun W hW =>
    ⟨data1 hx h0 hW, data1 hx h1 hW, data1 hx h2 hW, data1 hx h3 hW, data1 hx h4 hW, data1 hx h5 hW, data1 hx h6 hW, data1 hx h7 hW⟩⟩
theorem OB.drew {w W : World} {g : Nat} {sl v6 v7 v8 : Value} (h : OB w W g sl v6 v7 v8) : OB w W.drew g sl v6 v7 v8 := ⟨h.b0, h.b1, h.b2, h.b3, h.bel.drew⟩
@[reducible] def opT (A : Option Addr) (n c m kc N g B1 : Nat) (kad : Addr) (now : Int) {L : List AK} (x : {k : AK // k ∈ L}) (Bx : Nat) : Array Value := #[.slice A n c, .slice (some kad) m kc, .int .i64 now, .pointer (some ⟨g, 0, none⟩), undef, undef, .pointer (some ⟨g + 1, 0, none⟩), .pointer (some ⟨g + 1 + 1, 0, none⟩), .pointer (some ⟨g + 1 + 1 + 1, 0, none⟩), .int .u16 1, .int .i64 0, .int .i64 0, .int .i64 0, .pointer (some ⟨Bx, 0, none⟩), .tuple #[.int .i64 (N : Int), .int .i64 0], .slice A n c, .tuple #[.int .i64 (N : Int), .int .i64 0], .int .i64 (N : Int), .int .i64 0, .int .i64 0, .bool false, undef, .slice (some kad) m kc, .int .i64 (m : Int), .bool true, .tuple #[.int .i64 0, .int .i64 0], .slice (some kad) m kc, .tuple #[.int .i64 0, .int .i64 0], .int .i64 0, .int .i64 0, .int .i64 0, .bool false, .slice (some kad) m kc, .pointer (some kad), .pointer (some ⟨kad.block, kad.off + 1, none⟩), .int .u16 1, .slice A n c, .int .u16 1, .int .u16 1, .bool false, .int .u16 1, .bool false, undef, undef, undef, undef, undef, undef, undef, undef, .slice A n c, .int .i64 (N : Int), .int .i64 0, .int .i64 0, .bool false, undef, .int .u16 1, .bool false, undef, .slice (some kad) m kc, .int .i64 now, .func (.func 93) #[] #[.pointer (some ⟨B1, 0, none⟩), .pointer (some ⟨B1 + 1, 0, none⟩)], x.1.v, undef, undef, undef, undef, undef, undef, undef, undef]
set_option maxRecDepth 100000 in
set_option maxHeartbeats 4000000 in
theorem open_plain (A KA : Option Addr) (n c m kc N : Nat) (xs : List Int) (L : List AK) (now : Int) (w : World) (hx : Reads w w.heap.size 1 A n (u8s xs)) (ho : Oct xs) (hc : n ≤ c) (hm : c ≤ 9223372036854775807) (hn : n ≤ 1099511627776)
    (hL : Keys w KA m L) (hkc : m ≤ kc) (hkm : kc ≤ 9223372036854775807) (h0 : 0 < m) (hp : pkLen xs = ((N : Int), 0)) (hck : checkOf L = (0, 0)) (hkd : kind0 L = 1) (hpk : pkKind xs = 1) (hwh : wholeOf xs N = 0) :
    Calls Try.prog 18 #[.slice A n c, .slice KA m kc, .int .i64 now] w fun e w' =>
      e = .returned (opOut xs L now N) ∧ Below w.heap.size w w' := by
  have HX := Lib.hid hx
  have HO := Lib.hid ho
  have HL := Lib.hid hL
  have hl := hx.u8len
  obtain ⟨h24, hNn⟩ := pkLen_ok (xs := xs) (by rw [hp])
  rw [hp] at h24 hNn
  simp only at h24 hNn
  have HLen : Hid (∀ W : World, Below w.heap.size w W → Calls Try.prog 41 #[.slice A n c] W fun e w' => PkAt W w' ((N : Int), 0) e) := fun W hb => by
    have := length_any A n c xs W W.heap.size (hx.later hb) ho hc hm
    rwa [hp] at this
  have HCk : Hid (∀ W : World, Below w.heap.size w W → Calls Try.prog 12 #[.slice KA m kc] W fun e w' => CkAt W w' (0, 0) e) := fun W hb => by
    have := check_any KA m kc L W (hL.later hb) hkc (by omega)
    rwa [hck] at this
  have HKd : Hid (∀ W : World, Below w.heap.size w W → Calls Try.prog 42 #[.slice A n c] W fun e w' => e = .returned (.int .u16 1) ∧ ∃ k, w' = W.drewN k) := fun W hb => by
    have := kind_any A n c xs W W.heap.size (hx.later hb) ho (by omega) hc hm
    rwa [hpk] at this
  have HWh : Hid (∀ W : World, Below w.heap.size w W → Calls Try.prog 44 #[.slice A n c, .int .i64 N] W fun e w' => e = .returned (.int .i64 0) ∧ Below W.heap.size W w') := fun W hb => by
    have := whole_any A n c xs N W (hx.later hb) ho hc hm hn
    rwa [hwh] at this
  obtain ⟨kad, rfl⟩ : ∃ ad, KA = some ad := by obtain ⟨ad, e, _⟩ := hL.row.2 (by omega); exact ⟨ad, e⟩
  have HF1 : Hid (∀ W : World, Below w.heap.size w W → W.cell? ⟨kad.block, kad.off + 1, none⟩ = some (.int .u16 1)) := fun W hb => by
    have := (hL.later hb).first h0
    rwa [hkd] at this
  clear hx ho hL hp hck hkd hpk hwh
  have H4 := Lib.hid (four_new w (.slice A n c))
  refine (callsIn_wide (n := 6)).1 (callsIn_of_wp_marks Try.func18 rfl trivial ?_ rfl)
  simp only [Try.ntmps18, List.size_toArray, List.length_cons, List.length_nil, Nat.reduceAdd, Nat.reduceSub, Array.replicate_succ, Array.replicate_zero, List.push_toArray, List.append_toArray, List.nil_append, List.cons_append]
  refine wpIn_wide.2 ?_
  go_wp2_with fail
  generalize (((w.alloc (.cells #[.slice A n c] 32)).alloc (.cells #[.int .u32 0] 34)).alloc (.cells #[.int .i64 0] 3)).alloc (.cells #[.int .i64 0] 26) = w0 at *
  generalize hs0 : w.heap.size = g at *
  refine (HLen.out w0 H4.out.bel).mono ?_
  rintro e w1 ⟨rfl, d, rfl⟩
  have k0 := H4.out.b0.cell 0; have k2 := H4.out.b2.cell 0; have k3 := H4.out.b3.cell 0; have f2 := H4.out.b2.frozen 0; have f3 := H4.out.b3.frozen 0
  simp only [List.getElem?_toArray, List.getElem?_cons_zero] at k0 k2 k3
  have H5 := Lib.hid (((H4.out.drewN d).set7 (.int .i64 N)).set8 (.int .i64 0))
  clear H4 HLen
  go_wp2_with fail
  generalize ((w0.drewN d).setCell ⟨g + 1 + 1, 0, none⟩ (.int .i64 N)).setCell ⟨g + 1 + 1 + 1, 0, none⟩ (.int .i64 0) = w2 at *
  clear k0 k2 k3 f2 f3
  refine (HCk.out w2 H5.out.bel).mono ?_
  rintro e w3 ⟨rfl, hb⟩
  have H6 := Lib.hid (H5.out.later hb)
  clear hb H5 HCk
  have k0 := H6.out.b0.cell 0; have q1 := HF1.out w3 H6.out.bel
  simp only [List.getElem?_toArray, List.getElem?_cons_zero] at k0
  go_wp2_with fail
  refine (HKd.out w3 H6.out.bel).mono ?_
  rintro e w4 ⟨rfl, d4, hw4⟩
  have H7 := Lib.hid (H6.out.drewN d4)
  rw [← hw4] at H7
  clear H6 HKd HF1 k0 q1 hw4
  have k0 := H7.out.b0.cell 0; have k2 := H7.out.b2.cell 0
  simp only [List.getElem?_toArray, List.getElem?_cons_zero] at k0 k2
  go_wp2_with fail
  refine (HWh.out w4 H7.out.bel).mono ?_
  rintro e w5 ⟨rfl, hb⟩
  have H8 := Lib.hid (H7.out.later hb)
  clear hb H7 HWh k0 k2
  go_wp2_with fail
  refine (taken_any (some kad) m kc now w5).mono ?_
  rintro e w6 ⟨rfl, rfl⟩
  go_wp2_with fail
  have HB1 : Hid (((w5.alloc (.cells #[.slice (some kad) m kc] 22)).alloc (.cells #[.int .i64 now] 3)).cell? ⟨w5.heap.size, 0, none⟩ = some (.slice (some kad) m kc) ∧ ((w5.alloc (.cells #[.slice (some kad) m kc] 22)).alloc (.cells #[.int .i64 now] 3)).cell? ⟨w5.heap.size + 1, 0, none⟩ = some (.int .i64 now) ∧
      ((w5.alloc (.cells #[.slice (some kad) m kc] 22)).alloc (.cells #[.int .i64 now] 3)).heap.size = w5.heap.size + 2 ∧ OB w ((w5.alloc (.cells #[.slice (some kad) m kc] 22)).alloc (.cells #[.int .i64 now] 3)) g (.slice A n c) (.int .u32 0) (.int .i64 N) (.int .i64 0) ∧ g + 1 + 1 + 1 < w5.heap.size) := by
    have h1 : Blk ((w5.alloc (.cells #[.slice (some kad) m kc] 22)).alloc (.cells #[.int .i64 now] 3)) w5.heap.size 22 #[.slice (some kad) m kc] := (Blk.new _ _ _).alloc _
    have h2 : Blk ((w5.alloc (.cells #[.slice (some kad) m kc] 22)).alloc (.cells #[.int .i64 now] 3)) (w5.heap.size + 1) 3 #[.int .i64 now] := new_at _ _ _
    exact ⟨h1.cell 0, h2.cell 0, by rw [World.size_alloc, World.size_alloc], H8.out.later (below_two_ _ _ _), H8.out.b3.lt⟩
  generalize (w5.alloc (.cells #[.slice (some kad) m kc] 22)).alloc (.cells #[.int .i64 now] 3) = w7 at *
  clear H8
  generalize w5.heap.size = B1 at *
  refine (wpIn_wide (n := 6)).1 ?_
  refine wpIn_rangeFunc_ownH (α := {k : AK // k ∈ L}) rfl (by decide) (gf := 93) (lb := #[.pointer (some ⟨B1, 0, none⟩), .pointer (some ⟨B1 + 1, 0, none⟩)]) rfl trivial (enters_of Try.func93 (by kernel_rfl) rfl)
    (encs := fun x => #[x.1.v]) (Kp := Below w7.heap.size) (S := fun ys => ys = takenTo L now L.length) (Sp := fun pre => pre <+: takenTo L now L.length) (N := L.length) (w0 := w7)
    (fun l J Jx W hW hJ _ hY h0 => taken1_in Fence.wide 5 trivial rfl (by decide) l B1 (B1 + 1) w7.heap.size (some kad) m kc L now (by omega) HL.out.len J Jx W hJ hY hW.size (by have := HB1.out.2.2.1; omega) (by have := HB1.out.2.2.1; omega)
      ((hW.cell (p := ⟨B1, 0, none⟩) (by have := HB1.out.2.2.1; show B1 < _; omega)).trans HB1.out.1) ((hW.cell (p := ⟨B1 + 1, 0, none⟩) (by have := HB1.out.2.2.1; show B1 + 1 < _; omega)).trans HB1.out.2.1)
      ((HL.out.later (hs0 ▸ HB1.out.2.2.2.1.bel)).row.below hW) h0)
    belowK_t (belowK_b (Nat.le_refl _)) (Below.refl _ _) (fun _ => rfl)
    (fun pre W => (∀ y : {k : AK // k ∈ L}, y ∈ pre → (pw y.1.bs == (xs.drop 16).take 8) = false) ∧ OB w W g (.slice A n c) (.int .u32 0) (.int .i64 N) (.int .i64 0) ∧ w7.heap.size ≤ W.heap.size)
    (fun cd pre W => (cd = .ret ∧ ∃ y : {k : AK // k ∈ L}, y ∈ pre ∧ (pw y.1.bs == (xs.drop 16).take 8) = true) ∧ OB w W g (.slice A n c) (.int .u32 0) (.int .i64 N) (.int .i64 0))
    (OwnFrom.and (ownFrom_pure _ _) (OwnFrom.and (OB.own (by have := HB1.out.2.2; omega)) (fun _ _ _ _ h hg _ => Nat.le_trans h hg.size)))
    (fun cd => OwnFrom.and (ownFrom_pure _ (fun (pre : List {k : AK // k ∈ L}) => cd = .ret ∧ ∃ y : {k : AK // k ∈ L}, y ∈ pre ∧ (pw y.1.bs == (xs.drop 16).take 8) = true)) (OB.own (by have := HB1.out.2.2; omega)))
    ⟨by simp, HB1.out.2.2.2.1, Nat.le_refl _⟩
    (fun x a' W => ∃ Bx, w7.heap.size ≤ Bx ∧ Blk W Bx 70 x.1.cells.toArray ∧ a' = { tmps := opT A n c m kc N g B1 kad now x Bx, defers := [] })
    (fun x a' s W W' row h hg hr => by
      obtain ⟨Bx, h1, h2, h3⟩ := h
      exact ⟨Bx, h1, blk_own (β := Unit) () W W' row h2 hg hr, h3⟩)
    ?assign ?body ?done ?stop
  case assign =>
    intro l pre x W K hI hK
    obtain ⟨⟨id, kind, S, sn, sc, sf, su, tf, tu, bs⟩, hxL⟩ := x
    have hB : Below W.heap.size W (W.alloc (.cells #[.int .u8 id, .int .u16 kind, .slice S sn sc, .int .i64 sf, .int .i64 su, .int .i64 tf, .int .i64 tu] 70)) := (Below.refl _ _).alloc (Nat.le_refl _) _
    gi_wp2
    exact hK _ _ (KeepsFrom.of_below hB) (hB.mono hI.2.2) ⟨hI.1, hI.2.1.later hB, Nat.le_trans hI.2.2 hB.size⟩ ⟨W.heap.size, hI.2.2, Blk.new _ _ _, rfl⟩
  case body =>
    rintro l pre x a' W hlw ⟨r, hr⟩ ⟨hno, hOB, hsz⟩ ⟨Bx, hBx, bX, rfl⟩ hlt
    obtain ⟨⟨id, kind, S, sn, sc, sf, su, tf, tu, bs⟩, hxL⟩ := x
    have HOB := Lib.hid hOB
    have HBX : Hid (Blk W Bx 70 #[.int .u8 id, .int .u16 kind, .slice S sn sc, .int .i64 sf, .int .i64 su, .int .i64 tf, .int .i64 tu]) := bX
    clear hOB bX
    have j0 := HBX.out.cell 0; have j1 := HBX.out.cell 1; have j2 := HBX.out.cell 2; have j3 := HBX.out.cell 3; have j4 := HBX.out.cell 4; have j5 := HBX.out.cell 5; have j6 := HBX.out.cell 6
    have k0 := HOB.out.b0.cell 0
    simp only [List.getElem?_toArray, List.getElem?_cons_zero, List.getElem?_cons_succ] at j0 j1 j2 j3 j4 j5 j6 k0
    have HPW : Hid (∀ V : World, Below g w V → Calls Try.prog 46 #[AK.v ⟨id, kind, S, sn, sc, sf, su, tf, tu, bs⟩] V fun e w' => e = .returned (.agg (u8s (pw bs)).toArray) ∧ Below V.heap.size V w') :=
      fun V hV => password_any ⟨id, kind, S, sn, sc, sf, su, tf, tu, bs⟩ V ((HL.out.later (hs0 ▸ hV)).ok _ hxL)
    obtain ⟨xa, rfl⟩ : ∃ xa, A = some xa := by obtain ⟨xa, e, _⟩ := HX.out.2 (by omega); exact ⟨xa, e⟩
    obtain ⟨y0, y1, y2, y3, y4, y5, y6, y7, hE, hdt⟩ := data8 HX.out (by omega)
    have HDt := Lib.hid hdt
    clear hdt
    obtain ⟨p0, p1, p2, p3, p4, p5, p6, p7⟩ := HDt.out W HOB.out.bel
    have hEq : ∀ V : World, (binOp .eql 75 (.agg (u8s (pw bs)).toArray) (.agg #[.int .u8 y0, .int .u8 y1, .int .u8 y2, .int .u8 y3, .int .u8 y4, .int .u8 y5, .int .u8 y6, .int .u8 y7])).run Try.prog V = .ok (.bool (pw bs == (xs.drop 16).take 8)) V := fun V => by
      rw [hE]
      exact arr8_eq (pw bs) [y0, y1, y2, y3, y4, y5, y6, y7] (pw_length bs) rfl V
    have hd : 1 ≤ 6 - 1 - 1 := by omega
    have hAt : ∀ V : World, (Instr.arrayAt 75 (.slice (some ⟨xa.block, xa.off + 16, none⟩) 8 (c - 16))).run Try.prog V = .ok (.pointer (some ⟨xa.block, xa.off + 16, none⟩)) V := fun V => run_arrayAt (P := Try.prog) (w := V) 75 5 8 _ 8 (c - 16) Try.underlying75 (Nat.le_refl _)
    have hmx : Try.prog.follows .mixedOrders = true := by kernel_rfl
    have hnc : (24 : Int) ≤ (c : Int) := by omega
    cases heq : (pw bs == (xs.drop 16).take 8)
    · rw [heq] at hEq
      gi_wp2
      gi_region_with_o (refine ⟨trivial, ?_⟩; gi_at_call 46; refine (CallsIn.inRound l (callsIn_wide.2 (HPW.out _ HOB.out.bel.drew))).mono ?_; rintro e V ⟨rfl, hb⟩; have HV := Lib.hid (below_drew_left hb); have HOV := Lib.hid (HOB.out.later HV.out); clear hb; have k0 := HOV.out.b0.cell 0; have k1 := HOV.out.b1.cell 0; have k2 := HOV.out.b2.cell 0; have k3 := HOV.out.b3.cell 0; have f1 := HOV.out.b1.frozen 0; have f2 := HOV.out.b2.frozen 0; have f3 := HOV.out.b3.frozen 0; simp only [List.getElem?_toArray, List.getElem?_cons_zero] at k0 k1 k2 k3; obtain ⟨q0, q1, q2, q3, q4, q5, q6, q7⟩ := HDt.out V HOV.out.bel)
      all_goals gi_wp2
      all_goals exact ⟨KeepsFrom.of_below HV.out, HV.out.mono hsz, fun y hy => by
        rcases List.mem_append.1 hy with h | h
        · exact hno y h
        · simp at h; subst h; exact heq, HOV.out, Nat.le_trans hsz HV.out.size⟩
    · rw [heq] at hEq
      gi_wp2
      gi_region_with_o (refine ⟨trivial, ?_⟩; gi_at_call 46; refine (CallsIn.inRound l (callsIn_wide.2 (HPW.out _ HOB.out.bel.drew))).mono ?_; rintro e V ⟨rfl, hb⟩; have HV := Lib.hid (below_drew_left hb); have HOV := Lib.hid (HOB.out.later HV.out); clear hb; have k0 := HOV.out.b0.cell 0; have k1 := HOV.out.b1.cell 0; have k2 := HOV.out.b2.cell 0; have k3 := HOV.out.b3.cell 0; have f1 := HOV.out.b1.frozen 0; have f2 := HOV.out.b2.frozen 0; have f3 := HOV.out.b3.frozen 0; simp only [List.getElem?_toArray, List.getElem?_cons_zero] at k0 k1 k2 k3; obtain ⟨q0, q1, q2, q3, q4, q5, q6, q7⟩ := HDt.out V HOV.out.bel)
      all_goals gi_wp2
      all_goals gi_region_with_o (fail)
      all_goals gi_wp2
      all_goals exact ⟨(KeepsFrom.of_below HV.out).trans (((KeepsOthers.drew _).trans ((KeepsOthers.setCell _ _ _).trans ((KeepsOthers.setCell _ _ _).trans (KeepsOthers.setCell _ _ _)))).from _), ⟨rfl, _, List.mem_append.2 (.inr (List.mem_singleton.2 rfl)), heq⟩, ((HOV.out.drew.set6 (.int .u32 0)).set7 (.int .i64 N)).set8 (.int .i64 0)⟩
  case done =>
    rintro D ys W hD rfl ⟨hno, hOB, hsz⟩ hK
    have HOB := Lib.hid hOB
    have HO3 := Lib.hid (((hOB.set6 (.int .u32 0)).set7 (.int .i64 0)).set8 (.int .i64 26))
    have HK3 : Hid ((((W.setCell ⟨g + 1, 0, none⟩ (.int .u32 0)).setCell ⟨g + 1 + 1, 0, none⟩ (.int .i64 0)).setCell ⟨g + 1 + 1 + 1, 0, none⟩ (.int .i64 26)).heap[D]? = some (.deferred (some []))) :=
      (KeepsOthers.setCell _ _ _).same D _ ((KeepsOthers.setCell _ _ _).same D _ ((KeepsOthers.setCell _ _ _).same D _ hK rfl) rfl) rfl
    have hout : Hid (opOut xs L now N = .tuple #[.int .u32 0, .int .i64 0, .int .i64 26]) := opOut_no hno
    have k1 := hOB.b1.cell 0; have k2 := hOB.b2.cell 0; have k3 := hOB.b3.cell 0; have f1 := hOB.b1.frozen 0; have f2 := hOB.b2.frozen 0; have f3 := hOB.b3.frozen 0
    simp only [List.getElem?_toArray, List.getElem?_cons_zero] at k1 k2 k3
    clear hOB hno hK
    go_wp2
    generalize ((W.setCell ⟨g + 1, 0, none⟩ (.int .u32 0)).setCell ⟨g + 1 + 1, 0, none⟩ (.int .i64 0)).setCell ⟨g + 1 + 1 + 1, 0, none⟩ (.int .i64 26) = W3 at *
    refine ⟨by simp, .inl ⟨_, _, rfl, run_takeDeferred HK3.out, ?_⟩⟩
    have HP := op_after HO3.out (by have := HB1.out.2.2; omega) HK3.out
    exact ⟨_, op_results HP rfl rfl rfl, by rw [hout.out], by rw [hs0]; exact HP.bel⟩
  case stop =>
    rintro D cd pre W hD hpre ⟨⟨rfl, hex⟩, hOB⟩ hK
    refine wpIn_wide.2 ?_
    have hout : Hid (opOut xs L now N = .tuple #[.int .u32 0, .int .i64 N, .int .i64 0]) := opOut_yes hpre hex
    go_wp2
    refine ⟨by simp, .inl ⟨_, _, rfl, run_takeDeferred hK, ?_⟩⟩
    have HP := op_after hOB (by have := HB1.out.2.2; omega) hK
    exact ⟨_, op_results HP rfl rfl rfl, by rw [hout.out], by rw [hs0]; exact HP.bel⟩
end Go.Proofs.Ytkgdeneonobibaa
