/-
  slices.AppendSeq, slices.Collect over a map's keys. Printed by gen_sk2.py.
-/
import Derived.Test.YtpncbggjngamgaaSk2
import Derived.Laws.Cover3
import Derived.Test.YtpncbggjngamgaaOwnW
import Derived.Test.YtpncbggjngamgaaFlat
namespace Go.Proofs.Ytpncbggjngamgaa
set_option linter.unusedVariables false
open Go.RowKit Go.Shelf
attribute [local go_sem] Oper.semAt_some

theorem wpListIn_app {F : Fence} {N : Nat} {P : Program} {ops : Array Oper} {rest : List Oper} {o : Oper} {a : Act} {Q : Exit → Act → World → Prop} {w : World} {t e : TypeId} {size bytes : Nat} (E : El P t e size bytes)
    (hgd : o.guard = none) (s x : Operand) (ho : o.op = .call { callee := .builtin .append, args := #[s, x], argTypes := #[t, t] })
    {base : Nat} {v : Value} {n : Nat} {xs : List Value} (hown : w.ownsRow base e size v n xs) (hs : a.eval s = v)
    {B : Nat} {A : Option Addr} {m c : Nat} {news : List Value} (hr : Reads w B size A m news) (hx : a.eval x = .slice A m c) (h1 : ∀ u ∈ news, u.oneCell' = true)
    (h63 : n + m ≤ maxLen) (hbytes : (n + m) * bytes ≤ 140737488355328) (hbase : base ≤ w.heap.size)
    (h : ∀ v' w', w'.ownsRow base e size v' (n + m) (xs ++ news) → Below base w w' → w.grownBy w' v.ownBlock → wpListIn F N P ops Q rest (a.put o.dst v') w') :
    wpListIn F N P ops Q (o :: rest) a w := by
  refine wpListIn_plain hgd fun K hK' => ?_
  obtain ⟨v', w', hrun, h2, h3, h4⟩ := run_app E o.type hown c hr h1 h63 hbytes hbase
  unfold Oper.wpIn
  refine ⟨?_, ?_⟩
  · simp [Oper.about, ho, resolve, Target.leads, Sem.run_pure]
  · rw [Oper.semAt_plain F _ _ (by rw [ho]; intro c hc'; cases hc')]
    simp [execOp, ho, resolve, invoke, builtin, hs, hx, hrun, Result.andThen]
    exact hK' _ _ (h v' w' h2 (below_of_own hown h3 hbase) h3)
theorem blk_ownF {B g : Nat} {t : TypeId} {cs : Array Value} {β : Type} : OwnFrom B (fun (_ : β) W => Blk W g t cs) := by
  intro s W W' row h hg hr
  refine h.grown hg (fun e => ?_)
  obtain ⟨_, o, ho, hc⟩ := hr g e.symm
  have : some o = some (Obj.cells cs t) := ho.symm.trans h
  injection this with this
  subst this
  cases hc
theorem row_ownF {B base size n : Nat} {e : TypeId} {v : Value} {xs : List Value} {β : Type} : OwnFrom B (fun (_ : β) W => W.ownsRow base e size v n xs) := by
  intro s W W' row h hg hr
  refine h.kept hg ?_
  rcases h.2 with ⟨rfl, _⟩ | ⟨g, cap, cur, rfl, _, hgb, _⟩
  · exact .inl rfl
  · refine .inr fun e' => ?_
    obtain ⟨_, o, ho, hw⟩ := hr g (by simpa [Value.ownBlock] using e'.symm)
    rw [hgb] at ho; cases ho; cases hw
/-- What AppendSeq has gathered so far, in the box g. -/
def Gath (w : World) (g : Nat) (pre : List Ky3) (W : World) : Prop :=
  ∃ v, Blk W g 36 #[v] ∧ W.ownsRow g 45 3 v pre.length (pre.flatMap keyC) ∧ Below g w W
theorem Gath.own {w : World} {g B : Nat} (hB : g ≤ B) : OwnFrom B (Gath w g) := by
  intro s W W' row h hg hr
  obtain ⟨v, h1, h2, h3⟩ := h
  have h4 := (Array.getElem?_eq_some_iff.1 h1).1
  exact ⟨v, blk_ownF (β := Unit) () W W' row h1 hg hr, row_ownF (β := Unit) () W W' row h2 hg hr, h3.grown hg (Nat.le_of_lt h4) (fun k e => by have := (hr k e).1; omega)⟩
theorem Gath.lt {w W : World} {g : Nat} {pre : List Ky3} (h : Gath w g pre W) : g < W.heap.size := by
  obtain ⟨v, h1, _⟩ := h
  exact (Array.getElem?_eq_some_iff.1 h1).1
theorem Gath.later {w W W' : World} {g : Nat} {pre : List Ky3} (h : Gath w g pre W) (hb : Below W.heap.size W W') : Gath w g pre W' := by
  have hl := h.lt
  obtain ⟨v, h1, h2, h3⟩ := h
  refine ⟨v, h1.later hb, ⟨h2.1, ?_⟩, h3.trans (hb.mono (Nat.le_of_lt hl))⟩
  rcases h2.2 with h | ⟨g2, cap, cur, hv, hg2, hk, r⟩
  · exact .inl h
  · exact .inr ⟨g2, cap, cur, hv, hg2, (hb.block g2 (Array.getElem?_eq_some_iff.1 hk).1).trans hk, r⟩
theorem keepsF_below {B : Nat} {W W' : World} (h : Below W.heap.size W W') : KeepsFrom B W W' := ⟨h.size, fun k o _ hk _ => (h.block k (Array.getElem?_eq_some_iff.1 hk).1).trans hk⟩
theorem keeps_row {B base size n : Nat} {e : TypeId} {v : Value} {xs : List Value} {W W' : World} (h : W.ownsRow base e size v n xs) (hg : W.grownBy W' v.ownBlock) : KeepsFrom B W W' := ⟨hg.size, fun k o _ hk ho => by
  have hne : some k ≠ v.ownBlock := by
    intro e'
    rcases h.2 with ⟨rfl, _⟩ | ⟨g, cap, cur, rfl, _, hgb, _⟩
    · cases e'
    · have : k = g := by simpa [Value.ownBlock] using e'
      subst this; rw [hgb] at hk; cases hk; cases ho
  exact (hg.block k (Array.getElem?_eq_some_iff.1 hk).1 hne).trans hk⟩
theorem row_ne_box {base size n g : Nat} {e t : TypeId} {v : Value} {xs : List Value} {cs : Array Value} {W : World} (h : W.ownsRow base e size v n xs) (hB : Blk W g t cs) (hne : t ≠ e) : some g ≠ v.ownBlock := by
  intro e'
  rcases h.2 with ⟨rfl, _⟩ | ⟨g2, cap, cur, rfl, _, hgb, _⟩
  · cases e'
  · have : g = g2 := by simpa [Value.ownBlock] using e'
    subst this
    have : some (Obj.cells cs t) = some (Obj.cells cur e) := hB.symm.trans hgb
    injection this with this
    injection this with _ h2
    exact hne h2
theorem keepsW_of {B : Nat} {W W' : World} (h : Below B W W') (k : KeepsFrom B W W') : KeepsWalks W W' := ⟨h.size, fun i o hi ho => by
  rcases Nat.lt_or_ge i B with hb | hb
  · exact (h.block i hb).trans hi
  · exact k.2 i o hb hi (Obj.not_cells_of_walk ho)⟩
def KpW (g : Nat) (A B : World) : Prop := Below g A B ∧ KeepsWalks A B
theorem KpW.t {g : Nat} {A B C : World} (h : KpW g A B) (k : KpW g B C) : KpW g A C := ⟨h.1.trans k.1, h.2.trans k.2⟩
theorem KpW.b {g : Nat} {w : World} (hB : g ≤ w.heap.size) (W : World) (l : Nat) (o o' : Obj) (hl : w.heap.size ≤ l) (h : W.heap[l]? = some o) (hc : o.isCells = false) (hw : o.isWalk = false) : KpW g W (W.putObj l o') :=
  ⟨belowK_b hB W l o o' hl h hc hw, by simp [World.putObj], fun k x hk hx => by
    have hne : k ≠ l := fun e => by subst e; rw [h] at hk; injection hk with hk; subst hk; rw [hw] at hx; cases hx
    show (W.heap.setIfInBounds l o')[k]? = _
    rw [Array.getElem?_setIfInBounds_ne (Ne.symm hne)]
    exact hk⟩
theorem el_keyC : El Try.prog 36 45 3 12 := El.mk' Try.underlying36 (show (Try.prog.info? 45).map (fun i => (i.zero, i.size, i.bytes)) = some (some (.agg #[.int .u8 0, .int .u32 0, .int .u32 0]), 3, 12) by kernel_rfl) rfl (by omega)
def asT (fn : Value) (g Bx : Nat) (x : Ky3) : Array Value := #[.slice none 0 0, fn, .pointer (some ⟨g, 0, none⟩), undef, .slice none 0 0, .pointer (some ⟨Bx, 0, none⟩), fn, keyV x, undef, undef, undef, undef, undef]
/-- What Collect gathers of a map's keys. -/
def GaK (w w' : World) (L : List (Ky3 × Value)) (N : Nat) (e : Ending) : Prop := ∃ (v : Value) (ys : List Ky3), e = .returned v ∧ ys.Perm (List.map (fun x : Ky3 × Value => x.1) L) ∧ w'.ownsRow w.heap.size 45 3 v N (ys.flatMap keyC) ∧ Below w.heap.size w w'
theorem _root_.Go.Proofs.Ytpncbggjngamgaa.MapFs.laterB {κ : Type} [DecidableEq κ] {enc : κ → Value} {w w' : World} {b n B : Nat} {f : κ → Option Value} {es : Array MapEntry} {clock : Nat} {L : List (κ × Value)} (h : MapFs enc w b f n es clock L) (hb : Below B w w') (hl : b < B) : MapFs enc w' b f n es clock L :=
  ⟨(hb.block b hl).trans h.heap, h.ents, h.keys, h.at_, h.len, h.born, h.past⟩
set_option maxRecDepth 100000 in
set_option maxHeartbeats 2000000 in
theorem appendSeq_any (B1 bm N : Nat) (f : Ky3 → Option Value) (es : Array MapEntry) (clock : Nat) (L : List (Ky3 × Value)) (w : World) (hB1 : w.cell? ⟨B1, 0, none⟩ = some (.map (some bm))) (hL : MapFs keyV w bm f N es clock L) (hm : N ≤ 1048576) :
    Calls Try.prog 85 #[.slice none 0 0, .func (.func 82) #[] #[.pointer (some ⟨B1, 0, none⟩)]] w fun e w' =>
      GaK w w' L N e := by
  have HL := Lib.hid hL
  have hlt1 : B1 < w.heap.size := cell_lt hB1
  have hltm : bm < w.heap.size := (Array.getElem?_eq_some_iff.1 hL.heap).1
  have HG : Hid (Gath w w.heap.size [] (w.alloc (.cells #[.slice none 0 0] 36)) ∧ w.heap.size ≤ (w.alloc (.cells #[.slice none 0 0] 36)).heap.size ∧ Below w.heap.size w (w.alloc (.cells #[.slice none 0 0] 36))) :=
    Lib.hid ⟨⟨_, Blk.new _ _ _, World.ownsRow_nil _ _ _ _, (Below.refl _ _).alloc (Nat.le_refl _) _⟩, by rw [World.size_alloc]; omega, (Below.refl _ _).alloc (Nat.le_refl _) _⟩
  clear hL
  refine (callsIn_wide (n := 6)).1 (callsIn_of_wp_marks Try.func85 rfl trivial ?_ rfl)
  simp only [Try.ntmps85, List.size_toArray, List.length_cons, List.length_nil, Nat.reduceAdd, Nat.reduceSub, Array.replicate_succ, Array.replicate_zero, List.push_toArray, List.append_toArray, List.nil_append, List.cons_append]
  refine wpIn_wide.2 ?_
  go_wp2_with fail
  generalize w.alloc (.cells #[.slice none 0 0] 36) = w0 at *
  generalize hs0 : w.heap.size = g at *
  refine (wpIn_wide (n := 6)).1 ?_
  refine wpIn_rangeFunc_ownH (α := Ky3) rfl (by decide) (gf := 82) (lb := #[.pointer (some ⟨B1, 0, none⟩)]) rfl trivial (enters_of Try.func82 (by kernel_rfl) rfl)
    (encs := fun x => #[keyV x]) (Kp := KpW g) (S := fun ys : List Ky3 => ys.Perm (List.map (fun x : Ky3 × Value => x.1) L)) (Sp := fun _ => True) (N := N) (w0 := w0)
    (fun l J Jx W hW hJ _ hY h0 => keys_in Fence.wide 5 trivial rfl (by decide) l B1 g bm N f es clock L J Jx W hJ hY (Nat.le_trans HG.out.2.1 hW.size)
      (((HG.out.2.2.trans (hW.mono HG.out.2.1)).cell (p := ⟨B1, 0, none⟩) hlt1).trans hB1)
      (HL.out.laterB (HG.out.2.2.trans (hW.mono HG.out.2.1)) hltm) h0)
    KpW.t (KpW.b HG.out.2.1) (Below.refl _ _) (fun _ => rfl)
    (Gath w g) (fun _ _ _ => False)
    (Gath.own HG.out.2.1) (fun _ _ _ _ _ h _ _ => h.elim)
    HG.out.1
    (fun x a' W => ∃ Bx, g < Bx ∧ Blk W Bx 45 (keyC x).toArray ∧ a' = { tmps := asT (.func (.func 82) #[] #[.pointer (some ⟨B1, 0, none⟩)]) g Bx x, defers := [] })
    (fun x a' s W W' row h hg hr => by
      obtain ⟨Bx, h1, h2, h3⟩ := h
      exact ⟨Bx, h1, blk_ownF (β := Unit) () W W' row h2 hg hr, h3⟩)
    ?assign ?body ?done ?stop
  case assign =>
    intro l pre x W K hI hK
    obtain ⟨k1, k2, k3⟩ := x
    have hB : Below W.heap.size W (W.alloc (.cells #[.int .u8 k1, .int .u32 k2, .int .u32 k3] 45)) := (Below.refl _ _).alloc (Nat.le_refl _) _
    have hlt := hI.lt
    gi_wp2
    exact hK _ _ (keepsF_below hB) ⟨hB.mono (Nat.le_of_lt hlt), keepsW_of (hB.mono (Nat.le_of_lt hlt)) (keepsF_below hB)⟩ (hI.later hB) ⟨W.heap.size, hlt, Blk.new _ _ _, rfl⟩
  case body =>
    rintro l pre x a' W hlw ⟨r, hr⟩ ⟨v, hB, hrow, hbel⟩ ⟨Bx, hBx, bX, rfl⟩ hlt
    have hgW : g < W.heap.size := (Array.getElem?_eq_some_iff.1 hB).1
    obtain ⟨k1, k2, k3⟩ := x
    have k0 := hB.cell 0
    have j0 := bX.cell 0; have j1 := bX.cell 1; have j2 := bX.cell 2
    simp only [keyC, List.getElem?_toArray, List.getElem?_cons_zero, List.getElem?_cons_succ] at j0 j1 j2 k0
    have HB := Lib.hid hB
    have HR := Lib.hid (hrow.alloc (.cells #[.int .u8 k1, .int .u32 k2, .int .u32 k3] 45))
    have HB2 := Lib.hid (hB.alloc (.cells #[.int .u8 k1, .int .u32 k2, .int .u32 k3] 45))
    have HBl := Lib.hid hbel
    have HBW : Hid (Below W.heap.size W (W.alloc (.cells #[.int .u8 k1, .int .u32 k2, .int .u32 k3] 45))) := Lib.hid ((Below.refl _ _).alloc (Nat.le_refl _) _)
    have HX : Hid (Reads (W.alloc (.cells #[.int .u8 k1, .int .u32 k2, .int .u32 k3] 45)) (W.heap.size + 1) 3 (some ⟨W.heap.size, 0, none⟩) 1 (keyC (k1, k2, k3))) :=
      Lib.hid ⟨rfl, fun _ => ⟨_, rfl, Nat.lt_succ_self _, fun j u hu => by rw [add_none, Nat.zero_add, (Blk.new W 45 #[.int .u8 k1, .int .u32 k2, .int .u32 k3]).cell]; simpa [keyC] using hu⟩⟩
    clear hB hrow hbel bX hr
    unfold asT
    gi_wp2_with (gi_at_builtin; refine wpListIn_app el_keyC rfl (.tmp 8) (.tmp 10) rfl HR.out rfl HX.out rfl (keyC_one _) (by simp only [maxLen]; omega) (by omega) (by rw [World.size_alloc]; omega) ?_; intro v3 w3 ho3 hb3 hg3; obtain ⟨A3, c3, rfl, -⟩ := (OwnW.of_own ho3).shape; have HB3 := Lib.hid (HB2.out.grown hg3 (row_ne_box HR.out HB2.out (by decide))); have H3 := Lib.hid (And.intro ho3 (And.intro hb3 hg3)); have f0 := HB3.out.frozen 0; have k3 := HB3.out.cell 0; simp only [List.getElem?_toArray, List.getElem?_cons_zero] at k3; clear ho3 hb3 hg3)
    have HBX := H3.out.2.1
    have hgw3 : g < w3.heap.size := (Array.getElem?_eq_some_iff.1 HB3.out).1
    have hkf := ((keepsF_below (B := g) HBW.out).trans (keeps_row HR.out H3.out.2.2)).trans ((KeepsOthers.setCell w3 ⟨g, 0, none⟩ (.slice A3 (pre.length + 1) c3)).from g)
    have hbf := ((HBW.out.mono (Nat.le_of_lt hgW)).trans H3.out.2.1).setCell (p := ⟨g, 0, none⟩) (Nat.le_refl _) (.slice A3 (pre.length + 1) c3)
    refine ⟨⟨hkf.1, fun k o hk h0 ho => hkf.2 k o (Nat.le_trans HG.out.2.1 hk) h0 ho⟩, ⟨hbf, keepsW_of hbf hkf⟩, _, HB3.out.set_ 0 _, ?_, ?_⟩
    · have h := H3.out.1.kept (grownBy_setCell' w3 g (.slice A3 (pre.length + 1) c3)) (.inr (Ne.symm (row_ne_box H3.out.1 HB3.out (by decide))))
      rw [List.length_append, List.flatMap_append]
      simpa using h
    · exact (HBl.out.trans ((HBW.out.mono (Nat.le_of_lt hgW)).trans H3.out.2.1)).setCell (p := ⟨g, 0, none⟩) (Nat.le_refl _) _
  case done =>
    rintro D ys W hD hp ⟨v, hB, hrow, hbel⟩ hK
    have k0 := hB.cell 0
    simp only [List.getElem?_toArray, List.getElem?_cons_zero] at k0
    have HR := Lib.hid (row_ownF (β := Unit) (B := w0.heap.size) |>.putObj (s := ()) (.deferred none) hrow hD hK rfl)
    have HBl := Lib.hid (hbel.grown (grownBy_putObj' W D (.deferred none)) (Nat.le_of_lt (Array.getElem?_eq_some_iff.1 hB).1) (fun k e => by cases e; have := HG.out.2.1; omega))
    clear hB hrow hbel
    go_wp2
    refine ⟨by simp, .inl ⟨_, _, rfl, run_takeDeferred hK, ?_⟩⟩
    have hyl : ys.length = N := by have := hp.length_eq; rw [List.length_map, HL.out.len] at this; exact this
    exact ⟨_, results_tmp rfl _ _ _, v, ys, rfl, hp, by rw [← hyl, hs0]; exact HR.out, by rw [hs0]; exact HBl.out⟩
  case stop =>
    rintro D cd pre W hD hpre h hK
    exact h.elim
theorem collect_any (B1 bm N : Nat) (f : Ky3 → Option Value) (es : Array MapEntry) (clock : Nat) (L : List (Ky3 × Value)) (w : World) (hB1 : w.cell? ⟨B1, 0, none⟩ = some (.map (some bm))) (hL : MapFs keyV w bm f N es clock L) (hm : N ≤ 1048576) :
    Calls Try.prog 80 #[.func (.func 82) #[] #[.pointer (some ⟨B1, 0, none⟩)]] w fun e w' =>
      GaK w w' L N e := by
  have H := Lib.hid (appendSeq_any B1 bm N f es clock L w hB1 hL hm)
  clear hB1 hL
  go_enter Try.func80, Try.ntmps80
  go_wp2_with fail
  refine H.out.mono ?_
  rintro e w1 ⟨v, ys, rfl, hp, h1, h2⟩
  obtain ⟨A3, c3, rfl, -⟩ := (OwnW.of_own h1).shape
  have HP := Lib.hid hp
  have H1 := Lib.hid h1
  have H2 := Lib.hid h2
  clear h1 h2 H hp
  go_wp2
  go_ret
  exact ⟨_, ys, rfl, HP.out, H1.out, H2.out⟩
end Go.Proofs.Ytpncbggjngamgaa
