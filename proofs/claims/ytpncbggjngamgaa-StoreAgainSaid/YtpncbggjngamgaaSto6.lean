/-
  All, Heads and Due: ranges over the store's iterator. Printed by gen_sto6.py.
-/
import Derived.Test.YtpncbggjngamgaaSto5
import Derived.Test.YtpncbggjngamgaaRfT
namespace Go.Proofs.Ytpncbggjngamgaa
set_option linter.unusedVariables false
open Go.RowKit Go.Shelf
attribute [local go_sem] Oper.semAt_some

/-- The iterator that each gives, called in a later world: what it hands on. -/
def EachAt (sv : Value) (now : Int) (f : Ky3 → Option OneE) (N : Nat) (w : World) : Prop :=
  ∀ (l Bs Bn : Nat) (G : Nat → Prop) (w0 W : World) (J : List (Ydd f now) → World → Prop), AbidesFrom W.heap.size J →
    (∀ pre (x : Ydd f now) W1, J pre W1 → pre.length < N → YieldAt Fence.wide 4 Try.prog l #[keyV x.1.1, x.1.2.v] W1 fun e W' => e = .returned (.bool true) ∧ J (pre ++ [x]) W' ∧ KpG w.heap.size G W1 W') →
    Below w.heap.size w w0 → (∀ b, G b → b < w0.heap.size ∧ ∀ blk, ¬ Pts w0 b blk) → Below w0.heap.size w0 W →
    w0.cell? ⟨Bs, 0, none⟩ = some sv → w0.cell? ⟨Bn, 0, none⟩ = some (.int .i64 now) → ¬ G Bs → ¬ G Bn → J [] W →
    CallsIn Fence.wide 5 Try.prog 63 #[.func (.yield l) #[] #[], .pointer (some ⟨Bs, 0, none⟩), .pointer (some ⟨Bn, 0, none⟩)] W fun e W' => (∃ v, e = .returned v) ∧
      ∃ ys, (KsOf f N (ys.map (fun p : Ydd f now => p.1.1)) ∧ YsIn w0.heap.size G (yS ys) W') ∧ J ys W'
theorem eachAt_of {g bm N : Nat} {most now : Int} {f : Ky3 → Option OneE} {w : World} (q : StF w g bm most f N) (hnow : 0 ≤ now ∧ now ≤ 9223372036854775807) (hN : N ≤ 1048576) : EachAt (.pointer (some ⟨g, 0, none⟩)) now f N w :=
  fun l Bs Bn G w0 W J hJ hY hS hg hb hs ht h1 h2 h0 => each_in l Bs Bn g bm most f N now w w0 W G J hJ hY q hS hg hb hs ht h1 h2 hnow hN h0
theorem ksOf_none : KsOf (fun _ => none) 0 [] := ⟨fun k => by simp, fun i j a b _ h => by simp at h, rfl⟩
theorem eachAt_neg {g bm N : Nat} {most now : Int} {f : Ky3 → Option OneE} {w : World} (q : StF w g bm most f N) (hnow : now < 0) : EachAt (.pointer (some ⟨g, 0, none⟩)) now (fun _ => none) 0 w := by
  intro l Bs Bn G w0 W J hJ hY hS hg hb hs ht h1 h2 h0
  have j1 := (hb.cell (p := ⟨Bs, 0, none⟩) (cell_lt hs)).trans hs
  have j2 := (hb.cell (p := ⟨Bn, 0, none⟩) (cell_lt ht)).trans ht
  have j3 : W.cell? ⟨g, 0, none⟩ = some (.map (some bm)) := (q.later (hS.trans (hb.mono hS.size))).blk.cell 0
  have HN := Lib.hid (stnone_any W g bm j3)
  have dn : decide (now < 0) = true := decide_eq_true hnow
  have H0 := Lib.hid h0
  clear q hS hb hs ht j3 h0
  refine callsIn_of_wp Try.func63 rfl trivial ?_ rfl
  simp only [Try.ntmps63, List.size_toArray, List.length_cons, List.length_nil, Nat.reduceAdd, Nat.reduceSub, Array.replicate_succ, Array.replicate_zero, List.push_toArray, List.append_toArray, List.nil_append, List.cons_append]
  refine wpIn_wide.2 ?_
  go_wp2_with (go_at_call 33; refine HN.out.mono ?_; rintro e w' ⟨rfl, rfl⟩)
  refine bodyPost_ret (results_none rfl _ _ _) rfl ?_
  exact ⟨⟨_, rfl⟩, [], ⟨ksOf_none, ⟨fun s h => by simp [yS] at h, List.Pairwise.nil⟩⟩, H0.out⟩
/-- The iterator of no store: it hands on nothing. -/
theorem eachAt_none {sv : Value} {now : Int} {w : World} (hn : ∀ W : World, Below w.heap.size w W → Calls Try.prog 33 #[sv] W fun e w' => e = .returned (.bool true) ∧ W = w') : EachAt sv now (fun _ => none) 0 w := by
  intro l Bs Bn G w0 W J hJ hY hS hg hb hs ht h1 h2 h0
  have j1 := (hb.cell (p := ⟨Bs, 0, none⟩) (cell_lt hs)).trans hs
  have j2 := (hb.cell (p := ⟨Bn, 0, none⟩) (cell_lt ht)).trans ht
  have HN := Lib.hid (hn W (hS.trans (hb.mono hS.size)))
  have H0 := Lib.hid h0
  clear hn hS hb hs ht h0
  refine callsIn_of_wp Try.func63 rfl trivial ?_ rfl
  simp only [Try.ntmps63, List.size_toArray, List.length_cons, List.length_nil, Nat.reduceAdd, Nat.reduceSub, Array.replicate_succ, Array.replicate_zero, List.push_toArray, List.append_toArray, List.nil_append, List.cons_append]
  refine wpIn_wide.2 ?_
  go_wp2_with (go_at_call 33; refine HN.out.mono ?_; rintro e w' ⟨rfl, rfl⟩)
  refine bodyPost_ret (results_none rfl _ _ _) rfl ?_
  exact ⟨⟨_, rfl⟩, [], ⟨ksOf_none, ⟨fun s h => by simp [yS] at h, List.Pairwise.nil⟩⟩, H0.out⟩
theorem steach_any (sp : Option Addr) (now : Int) (w : World) :
    Calls Try.prog 31 #[.pointer sp, .int .i64 now] w fun e w' => e = .returned (.func (.func 63) #[] #[.pointer (some ⟨w.heap.size, 0, none⟩), .pointer (some ⟨w.heap.size + 1, 0, none⟩)]) ∧
      w' = (w.alloc (.cells #[.pointer sp] 34)).alloc (.cells #[.int .i64 now] 3) := by
  go_enter Try.func31, Try.ntmps31
  go_wp2
  go_ret
  exact ⟨rfl, rfl⟩

/-! ### What is gathered in a box -/
structure Gat (T t : TypeId) (size n₀ gb : Nat) (w1 : World) (k : Nat) (xs : List Value) (W : World) : Prop where
  ex : ∃ v, Blk W gb T #[v] ∧ W.ownsRow gb t size v k xs
  kp : KpG n₀ (fun b => b = gb) w1 W
theorem Pts.turn {W W' : World} {row : Option Nat} {gb blk : Nat} (hg : W.grownBy W' row) (hne : some gb ≠ row) (hl : gb < W.heap.size) (h : Pts W' gb blk) : Pts W gb blk := by
  obtain ⟨o, n, c, h⟩ := h
  refine ⟨o, n, c, ?_⟩
  rw [← h]
  exact (World.cell?_of_block (a := ⟨gb, 0, none⟩) (hg.block gb hl hne)).symm
theorem Gat.own {T t : TypeId} {size n₀ gb B : Nat} {w1 : World} {β : Type} {k : β → Nat} {xs : β → List Value} (hn : n₀ ≤ gb) (hg : gb < B) :
    OwnFrom B (fun (s : β) W => Gat T t size n₀ gb w1 (k s) (xs s) W) := by
  intro s W W' row h hgr hr
  obtain ⟨⟨v, hB, ho⟩, hk⟩ := h
  have hl : gb < W.heap.size := (Array.getElem?_eq_some_iff.1 hB).1
  have hne : some gb ≠ row := fun e => by have := (hr gb e.symm).1; omega
  refine ⟨⟨v, blk_ownF (β := Unit) () W W' row hB hgr hr, row_ownF (β := Unit) () W W' row ho hgr hr⟩, ?_⟩
  have hk2 : KpG n₀ (fun b => b = gb) W W' := by
    refine ⟨?_, fun i cs t fz hi _ _ => ?_, fun b blk hb hp => ?_, fun hlim b blk hb hp => ?_⟩
    · have hns : n₀ ≤ W.heap.size := by omega
      exact (Below.refl n₀ W).grown hgr hns (fun r e => by have := (hr r e).1; omega)
    · refine (hgr.block i (Array.getElem?_eq_some_iff.1 hi).1 (fun e => ?_)).trans hi
      obtain ⟨_, o, ho, hc⟩ := hr i e.symm
      rw [hi] at ho; cases ho; cases hc
    · subst hb; exact .inl (hp.turn hgr hne hl)
    · subst hb; have := hlim b blk rfl (hp.turn hgr hne hl); exact Nat.lt_of_lt_of_le this hgr.size
  exact hk.t hk2
theorem kp_step {T t : TypeId} {size n₀ gb k k' : Nat} {xs xs' : List Value} {v v3 : Value} {W W2 w3 : World} (hB : Blk W gb T #[v]) (ho : W.ownsRow gb t size v k xs) (hne : t ≠ T) (hb : Below W.heap.size W W2) (hg : W2.grownBy w3 v.ownBlock)
    (h4 : v3.ownBlock = v.ownBlock ∨ v3.ownBlock = some W2.heap.size) (ho3 : w3.ownsRow gb t size v3 k' xs') (hn : n₀ ≤ gb) : KpG n₀ (fun b => b = gb) W (w3.setCell ⟨gb, 0, none⟩ v3) := by
  have hl : gb < W.heap.size := (Array.getElem?_eq_some_iff.1 hB).1
  have hob : ∀ i, v.ownBlock = some i → gb ≤ i ∧ Pts W gb i ∧ i < W.heap.size := by
    intro i hi
    rcases ho.2 with ⟨rfl, _⟩ | ⟨g', cap, cur, rfl, h1, h2, _⟩
    · cases hi
    · have : g' = i := by simpa [Value.ownBlock] using hi
      subst this
      exact ⟨h1, ⟨0, k, cap, hB.cell 0⟩, (Array.getElem?_eq_some_iff.1 h2).1⟩
  have hnb : some gb ≠ v.ownBlock := fun e => (OwnW.of_own ho).ne_blk hB hne e.symm
  have hB2 : Blk W2 gb T #[v] := hB.later hb
  have hB3 : Blk w3 gb T #[v] := hB2.grown hg hnb
  have hsz : W.heap.size ≤ w3.heap.size := Nat.le_trans hb.size hg.size
  have hpts : ∀ blk, Pts (w3.setCell ⟨gb, 0, none⟩ v3) gb blk → v3.ownBlock = some blk := by
    rintro blk ⟨o, n, c, hp⟩
    have h5 : (w3.setCell ⟨gb, 0, none⟩ v3).cell? ⟨gb, 0, none⟩ = some v3 := (hB3.set_ 0 v3).cell 0
    rw [h5] at hp
    injection hp with hp
    subst hp
    rfl
  have hlt3 : ∀ blk, v3.ownBlock = some blk → blk < w3.heap.size := by
    intro blk hi
    rcases ho3.2 with ⟨rfl, _⟩ | ⟨g', cap, cur, rfl, h1, h2, _⟩
    · cases hi
    · have : g' = blk := by simpa [Value.ownBlock] using hi
      subst this
      exact (Array.getElem?_eq_some_iff.1 h2).1
  refine ⟨?_, fun i cs t fz hi hgi hp => ?_, fun b blk hbb hp => ?_, fun hlim b blk hbb hp => ?_⟩
  · refine Below.setCell (p := ⟨gb, 0, none⟩) ?_ hn v3
    have h6 : Below n₀ W W2 := hb.mono (by omega)
    exact h6.grown hg (by have := h6.size; omega) (fun i e => by have := (hob i e).1; omega)
  · have hi1 := (Array.getElem?_eq_some_iff.1 hi).1
    have hne2 : i ≠ gb := hgi
    have h7 : (w3.setCell ⟨gb, 0, none⟩ v3).heap[i]? = w3.heap[i]? := (grownBy_setCell' w3 gb v3).block i (by omega) (fun e => hne2 (by cases e; rfl))
    rw [h7, hg.block i (by have := hb.size; omega) (fun e => hp gb rfl (hob i e.symm).2.1), hb.block i hi1]
    exact hi
  · subst hbb
    rcases h4 with h4 | h4
    · exact .inl (hob blk (h4.symm.trans (hpts blk hp))).2.1
    · have := (hpts blk hp).symm.trans h4
      injection this with this
      exact .inr (by rw [this]; exact hb.size)
  · have := hlt3 blk (by subst hbb; exact hpts blk hp)
    have h8 := (grownBy_setCell' w3 gb v3).size
    subst hbb
    exact Nat.lt_of_lt_of_le this h8
theorem gat_step {T t : TypeId} {size n₀ gb k k' : Nat} {xs xs' : List Value} {v v3 : Value} {w1 W W2 w3 : World} {B : Nat} (hB : Blk W gb T #[v]) (ho : W.ownsRow gb t size v k xs) (hne : t ≠ T) (hb : Below W.heap.size W W2) (hg : W2.grownBy w3 v.ownBlock)
    (h4 : v3.ownBlock = v.ownBlock ∨ v3.ownBlock = some W2.heap.size) (ho3 : w3.ownsRow gb t size v3 k' xs') (hn : n₀ ≤ gb) (hk : KpG n₀ (fun b => b = gb) w1 W) (ho2 : W2.ownsRow gb t size v k xs) :
    KeepsFrom B W (w3.setCell ⟨gb, 0, none⟩ v3) ∧ KpG n₀ (fun b => b = gb) W (w3.setCell ⟨gb, 0, none⟩ v3) ∧ Gat T t size n₀ gb w1 k' xs' (w3.setCell ⟨gb, 0, none⟩ v3) := by
  have hkp := kp_step hB ho hne hb hg h4 ho3 hn
  have hB3 : Blk w3 gb T #[v] := (hB.later hb).grown hg (fun e => (OwnW.of_own ho).ne_blk hB hne e.symm)
  refine ⟨((keepsF_below hb).trans (keeps_row ho2 hg)).trans ((KeepsOthers.setCell w3 ⟨gb, 0, none⟩ v3).from B), hkp, ⟨v3, hB3.set_ 0 v3, ?_⟩, hk.t hkp⟩
  exact ho3.kept (grownBy_setCell' w3 gb v3) (.inr (fun e => (OwnW.of_own ho3).ne_blk hB3 hne e))
/-- The states that were handed on: each body a row of its own. -/
structure YsOk (B : Nat) (ss : List SE) (W : World) : Prop where
  own : ∀ s ∈ ss, s.ok B W
  sep : ss.Pairwise fun a b => ∀ p q, a.A = some p → b.A = some q → p.block ≠ q.block
theorem YsIn.ok {B : Nat} {G : Nat → Prop} {ss : List SE} {W : World} (h : YsIn B G ss W) : YsOk B ss W := ⟨fun s hs => (h.own s hs).1, h.sep⟩
theorem ysOk_own {B C : Nat} : OwnFrom C (fun ss W => YsOk B ss W) := fun ss W W' row h hg hr =>
  ⟨fun s hs => ⟨(h.own s hs).head, row_ownF (β := Unit) () W W' row (h.own s hs).body hg hr, (h.own s hs).oct, (h.own s hs).len⟩, h.sep⟩
theorem YsOk.later {B : Nat} {ss : List SE} {W W' : World} (h : YsOk B ss W) (hb : Below W.heap.size W W') : YsOk B ss W' := ⟨fun s hs => (h.own s hs).later hb, h.sep⟩
theorem YsOk.mono {B B' : Nat} {ss : List SE} {W : World} (h : YsOk B ss W) (hb : B' ≤ B) : YsOk B' ss W := ⟨fun s hs => (h.own s hs).mono hb, h.sep⟩
/-- A store's state at a key, as old as a time says. -/
def hAt (f : Ky3 → Option OneE) (now : Int) (k : Ky3) : Hd := ((f k).getD zOne).headAt now
def bAt (f : Ky3 → Option OneE) (k : Ky3) : List Int := ((f k).getD zOne).s.B
theorem Ydd.h {f : Ky3 → Option OneE} {now : Int} (p : Ydd f now) : p.1.2.h = hAt f now p.1.1 ∧ p.1.2.B = bAt f p.1.1 ∧ p.1.2.h.ok := by
  obtain ⟨p, x, h1, h2, h3, _, h5⟩ := p
  unfold hAt bAt
  show p.2.h = ((f p.1).getD zOne).headAt now ∧ p.2.B = ((f p.1).getD zOne).s.B ∧ p.2.h.ok
  rw [h1]
  exact ⟨h2, h3, h5⟩
@[reducible] def boxV (a : Nat) : Value := .pointer (some ⟨a, 0, none⟩)
def stL (s : SE) : List Value := (stC s.h s.A s.n s.c).toList
theorem stL_one (s : SE) : ∀ u ∈ stL s, u.oneCell' = true := by intro u hu; simp [stL, stC] at hu; rcases hu with rfl | rfl | rfl | rfl | rfl | rfl | rfl | rfl | rfl <;> rfl
theorem hd_one (h : Hd) : ∀ u ∈ h.cells, u.oneCell' = true := by intro u hu; simp [Hd.cells] at hu; rcases hu with rfl | rfl | rfl | rfl | rfl | rfl | rfl | rfl <;> rfl
theorem el_head : El Try.prog 38 28 8 20 := El.mk' Try.underlying38 (z := .agg #[.int .u16 0, .int .u8 0, .int .u8 0, .int .u32 0, .int .u32 0, .int .i32 0, .int .u16 0, .int .u16 0]) (by kernel_rfl) rfl (by omega)
theorem el_state : El Try.prog 49 31 9 48 := El.mk' Try.underlying49 (z := .agg zC) (by kernel_rfl) rfl (by omega)
theorem wpListIn_app4 {F : Fence} {N : Nat} {P : Program} {ops : Array Oper} {rest : List Oper} {o : Oper} {a : Act} {Q : Exit → Act → World → Prop} {w : World} {t e : TypeId} {size bytes : Nat} (E : El P t e size bytes)
    (hgd : o.guard = none) (s x : Operand) (ho : o.op = .call { callee := .builtin .append, args := #[s, x], argTypes := #[t, t] })
    {base : Nat} {v : Value} {n : Nat} {xs : List Value} (hown : w.ownsRow base e size v n xs) (hs : a.eval s = v)
    {B : Nat} {A : Option Addr} {m c : Nat} {news : List Value} (hr : Reads w B size A m news) (hx : a.eval x = .slice A m c) (h1 : ∀ u ∈ news, u.oneCell' = true)
    (h63 : n + m ≤ maxLen) (hbytes : (n + m) * bytes ≤ 140737488355328) (hbase : base ≤ w.heap.size)
    (h : ∀ v' w', w'.ownsRow base e size v' (n + m) (xs ++ news) → w.grownBy w' v.ownBlock → (v'.ownBlock = v.ownBlock ∨ v'.ownBlock = some w.heap.size) → wpListIn F N P ops Q rest (a.put o.dst v') w') :
    wpListIn F N P ops Q (o :: rest) a w := by
  refine wpListIn_plain hgd fun K hK' => ?_
  obtain ⟨v', w', hrun, h2, h3, h4⟩ := run_app E o.type hown c hr h1 h63 hbytes hbase
  unfold Oper.wpIn
  refine ⟨?_, ?_⟩
  · simp [Oper.about, ho, resolve, Target.leads, Sem.run_pure]
  · rw [Oper.semAt_plain F _ _ (by rw [ho]; intro c hc'; cases hc')]
    simp [execOp, ho, resolve, invoke, builtin, hs, hx, hrun, Result.andThen]
    exact hK' _ _ (h v' w' h2 h3 h4)
end Go.Proofs.Ytpncbggjngamgaa
