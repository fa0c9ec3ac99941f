/-
  CopyState, Tick of a list that has nothing to say, and what a row of states is as an argument.
-/
import Derived.Test.YtjkmehpokdaonaaLis6
import Derived.Test.YtjkmehpokdaonaaSpr10
import Derived.Test.YtjkmehpokdaonaaOpn2
import Derived.Test.YtjkmehpokdaonaaFlat
namespace Go.Proofs.Ytjkmehpokdaonaa
set_option linter.unusedVariables false
open Go.RowKit Go.ChangeShapes Go.WideShapes

/-- What CopyBytes leaves. -/
def CopyAt (w w' : World) (xs : List Int) (e : Ending) : Prop :=
  ∃ v, e = .returned v ∧ w'.ownsRow w.heap.size 5 1 v xs.length (u8s xs) ∧ Below w.heap.size w w'
theorem copyBytes_any (A : Option Addr) (n c : Nat) (xs : List Int) (w : World) (hx : Reads w w.heap.size 1 A n (u8s xs)) (hn : n ≤ 1099511627776) :
    Calls Try.prog 39 #[.slice A n c] w fun e w' => CopyAt w w' xs e := by
  have hlx := Lib.hid hx.u8len
  go_enter Try.func39, Try.ntmps39
  go_wp2_with (at_builtin; refine wpList_app el_u8 rfl _ _ rfl (World.ownsRow_nil _ w.heap.size _ _) rfl hx rfl u8s_one (by simp only [maxLen]; omega) (by omega) (Nat.le_refl _) ?_; intro v w1 hown hbel _ _)
  go_ret
  refine ⟨v, rfl, ?_, hbel⟩
  rw [hlx.out]
  simpa using hown
set_option maxRecDepth 100000 in
set_option maxHeartbeats 2000000 in
theorem copyState_any (s : SE) (w : World) (hs : s.rd w) : Calls Try.prog 16 #[s.v] w fun e w' => ∃ s', e = .returned s'.v ∧ CopyOf w w' s s' ∧ Below w.heap.size w w' := by
  obtain ⟨h, A, n, c, B⟩ := s
  have Hok := Lib.hid hs
  have hz : Hid (Blk ((w.alloc (.cells (stC h A n c) 44)).alloc (.cells zC 44)) (w.heap.size + 1) 44 zC) := new_at _ _ _
  have hx : Hid (Blk ((w.alloc (.cells (stC h A n c) 44)).alloc (.cells zC 44)) w.heap.size 44 (stC h A n c)) := Lib.hid ((Blk.new _ _ _).alloc _)
  have hb : Hid (Below w.heap.size w ((w.alloc (.cells (stC h A n c) 44)).alloc (.cells zC 44))) := below_two _ _ _
  have hR := Lib.hid (Hok.out.body.later hb.out)
  have hn : n ≤ 1099511627776 := Hok.out.len
  have hl : Hid (B.length = n) := Lib.hid Hok.out.body.u8len
  clear hs
  show Calls Try.prog 16 #[stV h A n c] w fun e w' => ∃ s', e = .returned s'.v ∧ CopyOf w w' ⟨h, A, n, c, B⟩ s' ∧ Below w.heap.size w w'
  go_enter Try.func16, Try.ntmps16
  go_wp2_with fail
  unfold stC zC at *
  generalize (w.alloc (.cells #[.int .u16 h.age, .int .u8 h.opts, .int .u8 h.typ, .int .u32 h.id, .int .u32 h.adv, .int .i32 h.seq, .int .u16 h.sum, .int .u16 h.len, .slice A n c] 44)).alloc (.cells #[.int .u16 0, .int .u8 0, .int .u8 0, .int .u32 0, .int .u32 0, .int .i32 0, .int .u16 0, .int .u16 0, .slice none 0 0] 44) = w1 at *
  refine (copyBytes_any A n c B w1 hR.out hn).mono ?_
  rintro e w2 ⟨v, rfl, hown, hb2⟩
  have H2 := Lib.hid (And.intro hown hb2)
  obtain ⟨A7, c7, hv, -⟩ := own_shape hown
  subst hv
  have x2 := hx.out.later hb2
  have z2 := hz.out.later hb2
  have HX := Lib.hid (And.intro x2 z2)
  obtain ⟨y0, y1, y2, y3, y4, y5, y6, y7, y8⟩ := stC_facts x2
  have f8 := x2.frozen 8
  have hne : w.heap.size ≠ w.heap.size + 1 := by omega
  clear hown hb2 x2 z2
  go_wp2_with (refine wpList_store_row rfl 44 _ _ rfl (w.heap.size + 1) #[.int .u16 h.age, .int .u8 h.opts, .int .u8 h.typ, .int .u32 h.id, .int .u32 h.adv, .int .i32 h.seq, .int .u16 h.sum, .int .u16 h.len, .slice A7 B.length c7] rfl rfl 44 _ (HX.out.2.far (by simp) _) info_state rfl (by simp [Value.oneCell']) ?_)
  refine bodyPost_ret (results_cell_row rfl _ _ (w.heap.size + 1) 44 #[.int .u16 h.age, .int .u8 h.opts, .int .u8 h.typ, .int .u32 h.id, .int .u32 h.adv, .int .i32 h.seq, .int .u16 h.sum, .int .u16 h.len, .slice A7 B.length c7] (0, 0) _ rfl ((HX.out.2.far (by simp) _).setRow _) Try.underlying44 rfl info_state) rfl ?_
  have hb3 : Below w.heap.size w w2 := below_then hb.out H2.out.2
  have h1s := hz.out.lt
  refine ⟨⟨h, A7, B.length, c7, B⟩, rfl, ⟨rfl, rfl, hl.out, ⟨Hok.out.head, ?_, by rw [hl.out]; exact hn⟩, fun i hi => ?_⟩, ?_⟩
  · have k1 := (kept_setC w2 w.heap.size 8 (.slice A7 B.length c7)).mono (T := fun j => j = w.heap.size ∨ j = w.heap.size + 1) fun i _ e => .inl e
    refine (OwnW.of_own H2.out.1).kept (k1.trans (Kept.of_grown (only_setRow _ (w.heap.size + 1) _)) (fun i _ e => .inr (by simpa using e.symm))) ?_
    intro i hi e
    have := (own_ge H2.out.1 hi).1
    omega
  · have := (own_ge H2.out.1 hi).1
    omega
  · exact below_setRow (hb3.setCell (by simp) _) (Nat.le_succ _) _
theorem tick_none (w : World) (F : Nat → Prop) (g bm : Nat) (r t : Int) (l : LF w F g bm r t []) :
    Calls Try.prog 18 #[.pointer (some ⟨g, 0, none⟩)] w fun e w' => e = .returned (.slice none 0 0) ∧ w = w' := by
  have hm : w.cell? ⟨g, 3, none⟩ = some (.map (some bm)) := l.map_cell
  have HN := Lib.hid (none_any w g bm hm)
  obtain ⟨kv, hB, hO, hF⟩ := l.ex
  obtain ⟨Ak, ck, rfl, hnk, hck, -, -⟩ := hO.shape
  have h2 : w.cell? ⟨g, 2, none⟩ = some (.slice Ak 0 ck) := hB.cell 2
  clear l hO hF hB
  go_enter Try.func18, Try.ntmps18
  go_wp2_with (go_at_call 36; refine HN.out.mono ?_; rintro e w' ⟨rfl, rfl⟩)
  go_ret
  exact ⟨rfl, rfl⟩
set_option maxRecDepth 100000 in
theorem tick_wait (w : World) (F : Nat → Prop) (g bm : Nat) (r t : Int) (L : List SE) (l : LF w F g bm r t L) (hL : L ≠ []) (h0 : 2 ≤ t) (h1 : t ≤ 65535) :
    Calls Try.prog 18 #[.pointer (some ⟨g, 0, none⟩)] w fun e w' => e = .returned (.slice none 0 0) ∧ LF w' F g bm r (t - 1) L ∧ Kept F w w' := by
  have hm : w.cell? ⟨g, 3, none⟩ = some (.map (some bm)) := l.map_cell
  have HN := Lib.hid (none_any w g bm hm)
  obtain ⟨kv, hB, hO, hF⟩ := l.ex
  have hs : ∃ A c, kv = .slice A L.length c := by
    obtain ⟨A, c, e, _⟩ := hO.shape
    exact ⟨A, c, e⟩
  obtain ⟨Ak, ck, rfl⟩ := hs
  have h1' : w.cell? ⟨g, 1, none⟩ = some (.int .u32 t) := hB.cell 1
  have h2 : w.cell? ⟨g, 2, none⟩ = some (.slice Ak L.length ck) := hB.cell 2
  have f1 := hB.frozen 1
  have hl0 : ((L.length : Int) == 0) = false := by
    rw [beq_eq_false_iff_ne]
    have : 0 < L.length := List.length_pos_iff.2 hL
    omega
  have hs1 := kept_setC w g 1 (.int .u32 (t - 1))
  have hne := l.map.ne_blk hB
  have F5 : Hid (LF (w.setCell ⟨g, 1, none⟩ (.int .u32 (t - 1))) F g bm r (t - 1) L ∧ Kept F w (w.setCell ⟨g, 1, none⟩ (.int .u32 (t - 1)))) := by
    refine Lib.hid ⟨⟨⟨_, hB.set_ 1 (.int .u32 (t - 1)), hO.kept hs1 (fun i hi e => hO.ne_blk hB (by decide) (e ▸ hi)), hF⟩, l.map.kept hs1 hne, l.fg, l.fb, fun s hs => (l.ok s hs).kept hs1 (fun i hi e => (l.ok s hs).body.ne_blk hB (by decide) (e ▸ hi)), l.bodies, l.nodup, l.few, fun i hi => Nat.lt_of_lt_of_le (l.lim i hi) hs1.size⟩, hs1.mono (fun i _ e => (show F i from e ▸ l.fg))⟩
  have hw1 : IntKind.u32.wrap (t - 1) = t - 1 := by rw [IntKind.wrap_u32]; omega
  have hd : decide (0 < t - 1) = true := decide_eq_true (by omega)
  clear l hO hF hB hs1 hne
  go_enter Try.func18, Try.ntmps18
  go_wp2_with (go_at_call 36; refine HN.out.mono ?_; rintro e w' ⟨rfl, rfl⟩)
  go_ret
  exact ⟨rfl, F5.out⟩

/-- A state as it comes in. -/
structure SArg (w : World) (s : SE) : Prop where
  head : s.h.ok
  body : Reads w w.heap.size 1 s.A s.n (u8s s.B)
  cap : s.n ≤ s.c ∧ s.c ≤ 9223372036854775807
theorem SArg.later {w w' : World} {s : SE} (h : SArg w s) (hb : Below w.heap.size w w') : SArg w' s := ⟨h.head, h.body.later hb, h.cap⟩
theorem SArg.rd {w : World} {s : SE} (h : SArg w s) (hn : s.n ≤ 1099511627776) : s.rd w := ⟨h.head, h.body, h.cap, hn⟩
theorem cells_len (s : SE) : s.cells.length = 9 := rfl
structure Stl (w : World) (A : Option Addr) (n : Nat) (L : List SE) : Prop where
  row : Reads w w.heap.size 9 A n (L.flatMap SE.cells)
  len : L.length = n
  ok : ∀ s ∈ L, SArg w s
theorem Stl.later {w w' : World} {A : Option Addr} {n : Nat} {L : List SE} (h : Stl w A n L) (hb : Below w.heap.size w w') : Stl w' A n L := ⟨h.row.later hb, h.len, fun s hs => (h.ok s hs).later hb⟩
/-- The cells of a state that stands at an address. -/
def StAt (w : World) (ad : Addr) (s : SE) : Prop :=
  w.cell? ad = some (.int .u16 s.h.age) ∧ w.cell? ⟨ad.block, ad.off + 1, none⟩ = some (.int .u8 s.h.opts) ∧ w.cell? ⟨ad.block, ad.off + 2, none⟩ = some (.int .u8 s.h.typ) ∧ w.cell? ⟨ad.block, ad.off + 3, none⟩ = some (.int .u32 s.h.id) ∧ w.cell? ⟨ad.block, ad.off + 4, none⟩ = some (.int .u32 s.h.adv) ∧
    w.cell? ⟨ad.block, ad.off + 5, none⟩ = some (.int .i32 s.h.seq) ∧ w.cell? ⟨ad.block, ad.off + 6, none⟩ = some (.int .u16 s.h.sum) ∧ w.cell? ⟨ad.block, ad.off + 7, none⟩ = some (.int .u16 s.h.len) ∧ w.cell? ⟨ad.block, ad.off + 8, none⟩ = some (.slice s.A s.n s.c)
theorem Stl.at_ {w : World} {A : Option Addr} {n i : Nat} {L : List SE} (h : Stl w A n L) (hi : i < n) : ∃ ad s, A = some ad ∧ ad.block < w.heap.size ∧ L[i]? = some s ∧ SArg w s ∧ StAt w (ad.add (i * 9)) s := by
  obtain ⟨ad, s, e, hb, hs, h0, hj⟩ := rowG_at cells_len h.row h.len hi
  exact ⟨ad, s, e, hb, hs, h.ok s (List.mem_of_getElem? hs), h0 _ rfl, hj 1 _ (by decide) rfl, hj 2 _ (by decide) rfl, hj 3 _ (by decide) rfl, hj 4 _ (by decide) rfl, hj 5 _ (by decide) rfl, hj 6 _ (by decide) rfl, hj 7 _ (by decide) rfl, hj 8 _ (by decide) rfl⟩
theorem StAt.later {w w' : World} {ad : Addr} {s : SE} (h : StAt w ad s) (hb : Below w.heap.size w w') : StAt w' ad s := by
  obtain ⟨h0, h1, h2, h3, h4, h5, h6, h7, h8⟩ := h
  have hl := cell_lt h0
  have H : ∀ (p : Addr) v, w.cell? p = some v → w'.cell? p = some v := fun p v e => (hb.cell (cell_lt e)).trans e
  exact ⟨H _ _ h0, H _ _ h1, H _ _ h2, H _ _ h3, H _ _ h4, H _ _ h5, H _ _ h6, H _ _ h7, H _ _ h8⟩
theorem stateS_of {H : Type} {enc : TypeId × Value → H} {w : World} {held : Bool} (fuel : Nat) (cs : List Value) (x : DataW H × List MemPlace) (h : DataW.trod enc Try.prog w 0 (fun _ => true) held fuel 44 cs = some x) :
    ∃ s : SE, cs = s.cells ∧ SArg w s ∧ ((∀ N ∈ x.1.weights Try.prog 44, N ≤ reachBytes) → True) := by
  obtain ⟨xs, n, _, _, hl, hxl, hf⟩ := DataW.trod_struct Try.underlying44 h
  have hC : Try.prog.cellsOf 44 = 9 := by kernel_rfl
  rw [hC] at hl
  match cs, hl, xs, hxl with
  | [c0, c1, c2, c3, c4, c5, c6, c7, c8], _, [y0, y1], _ =>
    have g0 : DataW.trod enc Try.prog w 0 (fun _ => true) held n 25 (([c0, c1, c2, c3, c4, c5, c6, c7, c8].drop 0).take (Try.prog.cellsOf 25)) = some y0 := hf 0 _ rfl
    rw [show Try.prog.cellsOf 25 = 8 from by kernel_rfl] at g0
    replace g0 : DataW.trod enc Try.prog w 0 (fun _ => true) held n 25 [c0, c1, c2, c3, c4, c5, c6, c7] = some y0 := g0
    have g1 : DataW.trod enc Try.prog w 0 (fun _ => true) held n 42 (([c0, c1, c2, c3, c4, c5, c6, c7, c8].drop 8).take (Try.prog.cellsOf 42)) = some y1 := hf 1 _ rfl
    rw [show Try.prog.cellsOf 42 = 1 from by kernel_rfl] at g1
    replace g1 : DataW.trod enc Try.prog w 0 (fun _ => true) held n 42 [c8] = some y1 := g1
    obtain ⟨g, o0, e0⟩ := head_of g0
    simp only [Hd.cells, List.cons.injEq, and_true] at e0
    obtain ⟨rfl, rfl, rfl, rfl, rfl, rfl, rfl, rfl⟩ := e0
    obtain ⟨A, m, c, zs, rfl, ⟨hr, _, h3⟩, _⟩ := bytes_open Try.underlying42 Try.underlying5 (by kernel_rfl) (by kernel_rfl) g1
    exact ⟨⟨g, A, m, c, zs⟩, rfl, ⟨o0, hr, h3⟩, fun _ => trivial⟩
theorem states_arg {H : Type} {enc : TypeId × Value → H} {w : World} {r : Reach} {b : Nat} {held : Bool} {v : Value} {d : DataW H} {p : List MemPlace}
    (hv : Value.okWide Try.prog w r b 36 v) (h : DataW.Trod enc Try.prog w 0 (fun _ => true) held 36 v d p) :
    ∃ (A : Option Addr) (n c : Nat) (L : List SE), v = .slice A n c ∧ Stl w A n L ∧ n ≤ c ∧ c ≤ 9223372036854775807 := by
  obtain ⟨A, n, c, L, e, h1, h2, h3, h4, h5, _⟩ := slice_arg (cs := SE.cells) cells_len (by decide) Try.underlying36 (by kernel_rfl) stateS_of hv h
  exact ⟨A, n, c, L, e, ⟨h1, h2, h3⟩, h4, h5⟩
theorem bools_arg {H : Type} {enc : TypeId × Value → H} {w : World} {r : Reach} {b : Nat} {held : Bool} {v : Value} {d : DataW H} {p : List MemPlace}
    (hv : Value.okWide Try.prog w r b 37 v) (h : DataW.Trod enc Try.prog w 0 (fun _ => true) held 37 v d p) :
    ∃ (A : Option Addr) (n c : Nat) (L : List Bool), v = .slice A n c ∧ Reads w w.heap.size 1 A n (L.flatMap fun b => [Value.bool b]) ∧ L.length = n ∧ n ≤ c ∧ c ≤ 9223372036854775807 := by
  obtain ⟨A, n, c, L, e, h1, h2, h3, h4, h5, _⟩ := slice_arg (cs := fun b => [Value.bool b]) (Ok := fun _ => True) (Wt := fun _ => True) (fun _ => rfl) (by decide) Try.underlying37 (by kernel_rfl) (fun fuel l x hx => by
    obtain ⟨b, e, _⟩ := DataW.trod_bool Try.underlying4 hx
    exact ⟨b, e, trivial, fun _ => trivial⟩) hv h
  exact ⟨A, n, c, L, e, h1, h2, h4, h5⟩
theorem newerOf_self (h : Hd) : newerOf h h = 0 := by
  have h1 : ∀ x, cmpI x x = 0 := fun x => by unfold cmpI; simp
  have h2 : ∀ x, dist2 x x = 0 := fun x => by unfold dist2; rw [h1]; simp
  have h3 : ∀ x, dist1 x x = 0 := fun x => by unfold dist1; simp
  unfold newerOf
  rw [h1, h1, h2, h3]
  rfl
end Go.Proofs.Ytjkmehpokdaonaa
