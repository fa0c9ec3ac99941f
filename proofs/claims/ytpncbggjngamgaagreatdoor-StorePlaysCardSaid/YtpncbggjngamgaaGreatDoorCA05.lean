/-
  The store's iterator over its states at a time, in a fence. Printed by gen_sto5.py.
  A range over a function whose rounds all go on, where the iterator tells of the memory in which it ends.
  All, Heads and Due: ranges over the store's iterator. Printed by gen_sto6.py.
  All, Heads and Due, walked. Printed by gen_sto7.py.
  A region that draws its order, inside a round of a range over a function: the laws of Rgn and Rgn2 there.
-/
import Derived.Test.YtpncbggjngamgaaGreatDoorCA03
import Derived.Test.YtpncbggjngamgaaGreatDoorCA04
import Derived.RangeFuncNested
import Derived.Test.YtpncbggjngamgaaGreatDoorCA02
import Derived.RangeFuncCalls
import Derived.OrdersIn
import Derived.TacticsIn
namespace Go.Proofs.YtpncbggjngamgaaGreatDoor
set_option linter.unusedVariables false
open Go.RowKit Go.Shelf
attribute [local go_sem] Oper.semAt_some

/-- What is handed on: a key of the store, and its state as old as the time says. -/
def Ydd (f : Ky3 → Option OneE) (now : Int) : Type := { p : Ky3 × SE // ∃ x, f p.1 = some x ∧ p.2.h = x.headAt now ∧ p.2.B = x.s.B ∧ p.2.n = x.s.n ∧ p.2.h.ok }
/-- The keys of a store, in order. -/
structure KsOf (f : Ky3 → Option OneE) (n : Nat) (ks : List Ky3) : Prop where
  mem : ∀ k, k ∈ ks ↔ (f k).isSome = true
  asc : ∀ (i j : Nat) (a b : Ky3), i < j → ks[i]? = some a → ks[j]? = some b → ltK a b = true
  len : ks.length = n
theorem ksOf {w : World} {bm n : Nat} {f : Ky3 → Option OneE} {es : Array MapEntry} {clock : Nat} {L : List (Ky3 × Value)} (h : MapFs keyV w bm (fun k => (f k).map OneE.v) n es clock L) {ks : List Ky3} (hs : Sorted_ (L.map fun x => x.1) ks) : KsOf f n ks := by
  have hnd : ks.Nodup := (hs.perm.nodup_iff).2 h.keys
  refine ⟨fun k => ?_, fun i j a b hij ha hb => ?_, by rw [hs.perm.length_eq, List.length_map, h.len]⟩
  · rw [hs.perm.mem_iff, List.mem_map]
    constructor
    · rintro ⟨⟨k', v⟩, hm, rfl⟩
      have h1 := (atL_some h.keys).2 hm
      rw [h.at_] at h1
      simp only at h1
      cases hf : f k' with
      | none => rw [hf] at h1; cases h1
      | some x => rfl
    · intro hk
      cases hf : f k with
      | none => rw [hf] at hk; cases hk
      | some x =>
        have h1 : atL L k = some x.v := by rw [h.at_]; simp [hf]
        exact ⟨(k, x.v), (atL_some h.keys).1 h1, rfl⟩
  · have h1 := hs.asc i j a b hij ha hb
    cases h2 : ltK a b with
    | true => rfl
    | false =>
      have e := ltK_eq h2 h1
      subst e
      have hi := (List.getElem?_eq_some_iff.1 ha).1
      have := (List.getElem?_inj hi hnd).1 (ha.trans hb.symm)
      omega
/-- The box points to a block. -/
def Pts (W : World) (gb blk : Nat) : Prop := ∃ o n c, W.cell? ⟨gb, 0, none⟩ = some (.slice (some ⟨blk, o, none⟩) n c)
/-- What a round keeps: all below n₀, and every block of cells but the boxes G and those that they point to. -/
structure KpG (n₀ : Nat) (G : Nat → Prop) (W W' : World) : Prop where
  below : Below n₀ W W'
  keep : ∀ k cs t fz, W.heap[k]? = some (.cells cs t fz) → ¬ G k → (∀ gb, G gb → ¬ Pts W gb k) → W'.heap[k]? = some (.cells cs t fz)
  pts : ∀ gb blk, G gb → Pts W' gb blk → Pts W gb blk ∨ W.heap.size ≤ blk
  lim : (∀ gb blk, G gb → Pts W gb blk → blk < W.heap.size) → ∀ gb blk, G gb → Pts W' gb blk → blk < W'.heap.size
theorem KpG.t {n₀ : Nat} {G : Nat → Prop} {A B C : World} (h : KpG n₀ G A B) (k : KpG n₀ G B C) : KpG n₀ G A C :=
  ⟨h.below.trans k.below, fun i cs t fz hi hG hP => k.keep i cs t fz (h.keep i cs t fz hi hG hP) hG fun gb hg hp => by
      have hl := (Array.getElem?_eq_some_iff.1 hi).1
      rcases h.pts gb i hg hp with h1 | h1
      · exact hP gb hg h1
      · omega,
    fun gb blk hg hp => by
      rcases k.pts gb blk hg hp with h1 | h1
      · exact h.pts gb blk hg h1
      · exact .inr (Nat.le_trans h.below.size h1),
    fun hl => k.lim (h.lim hl)⟩
theorem KpG.new {n₀ : Nat} {G : Nat → Prop} {W W' : World} (h : Below W.heap.size W W') (hn : n₀ ≤ W.heap.size) (hG : ∀ gb, G gb → gb < W.heap.size) : KpG n₀ G W W' :=
  have hp : ∀ gb blk, G gb → Pts W' gb blk → Pts W gb blk := fun gb blk hg ⟨o, n, c, hp⟩ => ⟨o, n, c, by rw [← h.cell (p := ⟨gb, 0, none⟩) (hG gb hg)]; exact hp⟩
  ⟨h.mono hn, fun i cs t fz hi _ _ => (h.block i (Array.getElem?_eq_some_iff.1 hi).1).trans hi, fun gb blk hg h2 => .inl (hp gb blk hg h2), fun hl gb blk hg h2 => Nat.lt_of_lt_of_le (hl gb blk hg (hp gb blk hg h2)) h.size⟩
theorem KpG.b {n₀ : Nat} {G : Nat → Prop} {w : World} (hn : n₀ ≤ w.heap.size) (W : World) (l : Nat) (o o' : Obj) (hl : w.heap.size ≤ l) (h : W.heap[l]? = some o) (hc : o.isCells = false) (hw : o.isWalk = false) (hG : ∀ gb, G gb → gb < w.heap.size) : KpG n₀ G W (W.putObj l o') := by
  have hne : ∀ k, k ≠ l → (W.putObj l o').heap[k]? = W.heap[k]? := fun k hk => by
    show (W.heap.setIfInBounds l o')[k]? = _
    rw [Array.getElem?_setIfInBounds_ne (Ne.symm hk)]
  have hpt : ∀ gb blk, G gb → Pts (W.putObj l o') gb blk → Pts W gb blk := fun gb blk hg ⟨o2, n, c, hp⟩ => ⟨o2, n, c, by
    unfold World.cell? at hp ⊢
    rw [hne gb (by have := hG gb hg; omega)] at hp
    exact hp⟩
  refine ⟨belowK_b hn W l o o' hl h hc hw, fun i cs t fz hi _ _ => ?_, fun gb blk hg hp => .inl (hpt gb blk hg hp), fun hl2 gb blk hg hp => ?_⟩
  · rw [hne i (fun e => by subst e; rw [h] at hi; injection hi with hi; subst hi; cases hc)]; exact hi
  · have := hl2 gb blk hg (hpt gb blk hg hp)
    simpa [World.putObj] using this
theorem KpG.cellK {n₀ : Nat} {G : Nat → Prop} {W V : World} (h : KpG n₀ G W V) {b i : Nat} {v : Value} (hc : W.cell? ⟨b, i, none⟩ = some v) (hg : ¬ G b) (hp : ∀ gb, G gb → ¬ Pts W gb b) : V.cell? ⟨b, i, none⟩ = some v := by
  unfold World.cell? at hc
  cases hk : W.heap[b]? with
  | none => simp [hk] at hc
  | some o =>
    simp only [hk] at hc
    cases o with
    | cells cs t fz =>
      have := h.keep b cs t fz hk hg hp
      unfold World.cell?
      simp only [this]
      exact hc
    | _ => simp at hc
/-- A state whose body no box points to. -/
def OkG (B : Nat) (G : Nat → Prop) (s : SE) (W : World) : Prop := s.ok B W ∧ ∀ p, s.A = some p → ∀ gb, G gb → ¬ Pts W gb p.block
/-- What was handed on so far: each body a row of its own. -/
structure YsIn (B : Nat) (G : Nat → Prop) (ss : List SE) (W : World) : Prop where
  own : ∀ s ∈ ss, OkG B G s W
  sep : ss.Pairwise fun a b => ∀ p q, a.A = some p → b.A = some q → p.block ≠ q.block
theorem own_at {w : World} {base size n m c : Nat} {e : TypeId} {A : Option Addr} {xs : List Value} (h : w.ownsRow base e size (.slice A m c) n xs) {p : Addr} (hp : A = some p) : base ≤ p.block ∧ p.block < w.heap.size ∧ ∃ cs t fz, w.heap[p.block]? = some (.cells cs t fz) := by
  rcases h.2 with ⟨e1, _⟩ | ⟨g', cap, cur, e1, hb, hk, _⟩
  · injection e1 with e1; rw [hp] at e1; cases e1
  · injection e1 with e1; rw [hp] at e1; injection e1 with e1; subst e1
    exact ⟨hb, (Array.getElem?_eq_some_iff.1 hk).1, _, _, _, hk⟩
theorem OkG.kp {n₀ B : Nat} {G : Nat → Prop} {s : SE} {W V : World} (h : OkG B G s W) (k : KpG n₀ G W V) (hB : ∀ gb, G gb → gb < B) : OkG B G s V := by
  obtain ⟨⟨h1, h2, h3, h4⟩, h5⟩ := h
  refine ⟨⟨h1, ⟨h2.1, ?_⟩, h3, h4⟩, fun p hp gb hg hq => ?_⟩
  · rcases h2.2 with h | ⟨g', cap, cur, e1, hb, hk, r⟩
    · exact .inl h
    · refine .inr ⟨g', cap, cur, e1, hb, ?_, r⟩
      injection e1 with e1
      exact k.keep g' _ _ _ hk (fun hg => by have := hB g' hg; omega) (fun gb hg hq => h5 _ e1 gb hg hq)
  · rcases k.pts gb _ hg hq with h6 | h6
    · exact h5 p hp gb hg h6
    · have := (own_at h2 hp).2.1; omega
theorem YsIn.kp {n₀ B : Nat} {G : Nat → Prop} {ss : List SE} {W V : World} (h : YsIn B G ss W) (k : KpG n₀ G W V) (hB : ∀ gb, G gb → gb < B) : YsIn B G ss V :=
  ⟨fun s hs => (h.own s hs).kp k hB, h.sep⟩
theorem YsIn.snoc {B : Nat} {G : Nat → Prop} {ss : List SE} {W V : World} {s : SE} (h : YsIn B G ss V) (hl : ∀ s ∈ ss, ∀ p, s.A = some p → p.block < W.heap.size) (hs : s.ok W.heap.size V) (hB : B ≤ W.heap.size)
    (hG : ∀ gb blk, G gb → Pts V gb blk → blk < W.heap.size) : YsIn B G (ss ++ [s]) V := by
  refine ⟨fun a ha => ?_, ?_⟩
  · rcases List.mem_append.1 ha with ha | ha
    · exact h.own a ha
    · rw [List.mem_singleton] at ha
      subst ha
      refine ⟨hs.mono hB, fun p hp gb hg hq => ?_⟩
      have h1 := (own_at hs.body hp).1
      have h2 := hG gb _ hg hq
      omega
  · rw [List.pairwise_append]
    refine ⟨h.sep, List.pairwise_singleton _ _, fun a ha b hb p q hp hq e => ?_⟩
    rw [List.mem_singleton] at hb
    subst hb
    have h1 := (own_at hs.body hq).1
    have h2 := hl a ha p hp
    omega
def yS {f : Ky3 → Option OneE} {now : Int} (ys : List (Ydd f now)) : List SE := ys.map fun p => p.1.2
set_option maxRecDepth 100000 in
set_option maxHeartbeats 4000000 in
theorem each_in (l Bs Bn g bm : Nat) (most : Int) (f : Ky3 → Option OneE) (N : Nat) (now : Int) (wS w0 W : World) (G : Nat → Prop) (J : List (Ydd f now) → World → Prop) (hJ : AbidesFrom W.heap.size J)
    (hY : ∀ pre (x : Ydd f now) W1, J pre W1 → pre.length < N → YieldAt Fence.wide 4 Tryz.prog l #[keyV x.1.1, x.1.2.v] W1 fun e W' =>
      e = .returned (.bool true) ∧ J (pre ++ [x]) W' ∧ KpG wS.heap.size G W1 W')
    (q : StF wS g bm most f N) (hS : Below wS.heap.size wS w0) (hG : ∀ gb, G gb → gb < w0.heap.size ∧ ∀ blk, ¬ Pts w0 gb blk) (hb : Below w0.heap.size w0 W)
    (hs : w0.cell? ⟨Bs, 0, none⟩ = some (.pointer (some ⟨g, 0, none⟩))) (ht : w0.cell? ⟨Bn, 0, none⟩ = some (.int .i64 now)) (hGs : ¬ G Bs) (hGt : ¬ G Bn)
    (hnow : 0 ≤ now ∧ now ≤ 9223372036854775807) (hN : N ≤ 1048576) (h0 : J [] W) :
    CallsIn Fence.wide 5 Tryz.prog 79 #[.func (.yield l) #[] #[], .pointer (some ⟨Bs, 0, none⟩), .pointer (some ⟨Bn, 0, none⟩)] W fun e W' => (∃ v, e = .returned v) ∧
      ∃ ys, (KsOf f N (ys.map (fun p : Ydd f now => p.1.1)) ∧ YsIn w0.heap.size G (yS ys) W') ∧ J ys W' := by
  have hSW : Below wS.heap.size wS W := hS.trans (hb.mono hS.size)
  have HQ := Lib.hid q
  have HJ0 := Lib.hid h0
  have HB := Lib.hid hSW
  have HG := Lib.hid (show ∀ gb, G gb → gb < W.heap.size ∧ ∀ blk, ¬ Pts W gb blk from fun gb hg => ⟨Nat.lt_of_lt_of_le (hG gb hg).1 hb.size, fun blk ⟨o, n, c, hp⟩ => (hG gb hg).2 blk ⟨o, n, c, by rw [← hb.cell (p := ⟨gb, 0, none⟩) (hG gb hg).1]; exact hp⟩⟩)
  have hc1 : ∀ V : World, KpG wS.heap.size G W V → V.cell? ⟨Bs, 0, none⟩ = some (.pointer (some ⟨g, 0, none⟩)) := fun V hV => hV.cellK ((hb.cell (p := ⟨Bs, 0, none⟩) (cell_lt hs)).trans hs) hGs fun gb hg => (HG.out gb hg).2 Bs
  have hc2 : ∀ V : World, KpG wS.heap.size G W V → V.cell? ⟨Bn, 0, none⟩ = some (.int .i64 now) := fun V hV => hV.cellK ((hb.cell (p := ⟨Bn, 0, none⟩) (cell_lt ht)).trans ht) hGt fun gb hg => (HG.out gb hg).2 Bn
  have HC1 := Lib.hid hc1
  have HC2 := Lib.hid hc2
  have HGB := Lib.hid (show ∀ gb, G gb → gb < w0.heap.size from fun gb hg => (hG gb hg).1)
  have HSz := Lib.hid hb.size
  have hrf : KpG wS.heap.size G W W := KpG.new (Below.refl _ _) HB.out.size fun gb hg => (HG.out gb hg).1
  have dn : decide (now < 0) = false := decide_eq_false (by omega)
  obtain ⟨es, clock, L, hm⟩ := (q.later hSW).map
  have HM := Lib.hid hm
  have j1 := HC1.out W hrf
  have j2 := HC2.out W hrf
  have j3 : W.cell? ⟨g, 0, none⟩ = some (.map (some bm)) := (q.later hSW).blk.cell 0
  have HN := Lib.hid (stnone_any W g bm j3)
  clear q hb h0 hs ht hm hc1 hc2 hS hG hSW hrf hGs hGt
  refine callsIn_of_wp Tryz.func79 rfl trivial ?_ rfl
  simp only [Tryz.ntmps79, List.size_toArray, List.length_cons, List.length_nil, Nat.reduceAdd, Nat.reduceSub, Array.replicate_succ, Array.replicate_zero, List.push_toArray, List.append_toArray, List.nil_append, List.cons_append]
  refine wpIn_wide.2 ?_
  go_wp2_with (first
    | (go_at_call 28; refine HN.out.mono ?_; rintro e w' ⟨rfl, rfl⟩)
    | (go_at_call 81; refine (keysF_any bm W).mono ?_; rintro e w1 ⟨rfl, rfl⟩))
  clear dn HN j1 j2 j3
  have hb1 : Below W.heap.size W (W.alloc (.cells #[.map (some bm)] 77)) := (Below.refl _ _).alloc (Nat.le_refl _) _
  have hbm : bm < W.heap.size := (Array.getElem?_eq_some_iff.1 HM.out.heap).1
  refine (sortedFunc_any W.heap.size bm N (fun k => (f k).map OneE.v) es clock L (W.alloc (.cells #[.map (some bm)] 77)) ((Blk.new W 77 #[.map (some bm)]).cell 0) (HM.out.laterB hb1 hbm) hN).mono ?_
  rintro e w2 ⟨v, rfl, hA⟩
  obtain ⟨ks, hsr, hO⟩ := hA.ex
  have hbase := hA.base
  obtain ⟨A, c, rfl, hcn, hcm, hR, hAd⟩ := hO.shape
  have HKs := Lib.hid (ksOf HM.out hsr)
  have hb2 := below_then hb1 hA.bel
  -- the row of keys: a block that no box points to
  have HR : Hid (∀ V : World, KpG wS.heap.size G w2 V → Reads V V.heap.size 3 A N (ks.flatMap keyC)) := Lib.hid fun V hV => by
    refine ⟨hR.1, fun hpos => ?_⟩
    obtain ⟨ad, hA1, hlt, hcell⟩ := hR.2 hpos
    have hown := (hAd ad hA1).1
    have hge := hbase ad.block hown
    rw [World.size_alloc] at hge
    refine ⟨ad, hA1, Nat.lt_of_lt_of_le hlt hV.below.size, fun j u hu => ?_⟩
    have h1 := hcell j u hu
    have hadd : (ad.add j).block = ad.block := by rw [(hAd ad hA1).2, add_none]
    have hblk : V.heap[ad.block]? = w2.heap[ad.block]? := by
      unfold World.cell? at h1
      rw [hadd] at h1
      cases hk : w2.heap[ad.block]? with
      | none => rw [hk] at h1; cases h1
      | some o =>
        rw [hk] at h1
        cases o with
        | cells cs t fz =>
          refine hV.keep ad.block cs t fz hk (fun hg => ?_) (fun gb hg ⟨o, n, c, hp⟩ => ?_)
          · have := (HG.out ad.block hg).1; omega
          · exact (HG.out gb hg).2 ad.block ⟨o, n, c, by rw [← hb2.cell (p := ⟨gb, 0, none⟩) (HG.out gb hg).1]; exact hp⟩
        | _ => cases h1
    exact (World.cell?_of_block (show V.heap[(ad.add j).block]? = w2.heap[(ad.add j).block]? by rw [hadd]; exact hblk)).trans h1
  have HK2 : Hid (KpG wS.heap.size G W w2) := Lib.hid (KpG.new hb2 HB.out.size fun gb hg => (HG.out gb hg).1)
  have HJ2 : Hid (J [] w2) := Lib.hid (hJ [] W w2 none HJ0.out ⟨hb2.os, hb2.tape, hb2.output, hb2.size, fun k hk _ => hb2.block k hk⟩ (fun r e => by cases e))
  have HB2 := Lib.hid hb2
  clear hsr hO hR hb1 hA hAd hbase hb2
  go_wp2_with fail
  refine (wpIn_wide (n := 5)).1 ?_
  gi_loopw [19] (fun i wr => ∃ (j : Nat) (pre : List (Ydd f now)), i = .int .i64 j ∧ j ≤ N ∧ pre.map (fun p : Ydd f now => p.1.1) = ks.take j ∧ J pre wr ∧ KpG wS.heap.size G w2 wr ∧ YsIn w0.heap.size G (yS pre) wr) (fun i _ => N - (intOf i).toNat)
  case atStart => exact ⟨0, [], rfl, by omega, rfl, HJ2.out, KpG.new (Below.refl _ _) (Nat.le_trans HB.out.size HB2.out.size) (fun gb hg => Nat.lt_of_lt_of_le (HG.out gb hg).1 HB2.out.size), ⟨fun s h => by simp [yS] at h, List.Pairwise.nil⟩⟩
  case round =>
    obtain ⟨j, pre, rfl, hj, hpre, hJs, hk, hys⟩ := hrel
    have HYs := Lib.hid hys
    clear hys
    have HKr := Lib.hid hk
    have HPre := Lib.hid hpre
    clear hk hpre
    by_cases hlt : j < N
    · obtain ⟨ad, k, rfl, had, hk, c0', cj⟩ := rowG_at keyC_len (HR.out wr HKr.out) HKs.out.len hlt
      obtain ⟨k1, k2, k3⟩ := k
      have HKj := Lib.hid hk
      have c0 := c0' _ rfl
      have c1 := cj 1 _ (by decide) rfl
      have c2 := cj 2 _ (by decide) rfl
      clear c0' cj
      have hsome : (f (k1, k2, k3)).isSome = true := (HKs.out.mem _).1 (List.mem_of_getElem? hk)
      obtain ⟨x, hfx⟩ := Option.isSome_iff_exists.1 hsome
      have HX := Lib.hid hfx
      have HLK := Lib.hid (show lookF (fun k => (f k).map OneE.v) (k1, k2, k3) zOne.v false = x.v by unfold lookF; simp [hfx])
      clear hk hsome hfx
      have hb3 : Below wr.heap.size wr (wr.alloc (.cells #[.int .u8 k1, .int .u32 k2, .int .u32 k3] 68)) := (Below.refl _ _).alloc (Nat.le_refl _) _
      have hb4 : Below wr.heap.size wr (wr.alloc (.cells #[.int .u8 k1, .int .u32 k2, .int .u32 k3] 68)).drew := hb3.drew
      have HBr : Hid (Below wS.heap.size wS (wr.alloc (.cells #[.int .u8 k1, .int .u32 k2, .int .u32 k3] 68)).drew) := Lib.hid (HB.out.trans ((HB2.out.mono HB.out.size).trans (HKr.out.below.trans (hb4.mono (Nat.le_trans HB.out.size (Nat.le_trans HB2.out.size HKr.out.below.size))))))
      have hGr : ∀ gb, G gb → gb < wr.heap.size := fun gb hg => Nat.lt_of_lt_of_le (HG.out gb hg).1 (Nat.le_trans HB2.out.size HKr.out.below.size)
      have HK4 : Hid (KpG wS.heap.size G w2 (wr.alloc (.cells #[.int .u8 k1, .int .u32 k2, .int .u32 k3] 68)).drew) := Lib.hid (HKr.out.t (KpG.new hb4 (Nat.le_trans HB.out.size (Nat.le_trans HB2.out.size HKr.out.below.size)) hGr))
      have HJ4 : Hid (J pre (wr.alloc (.cells #[.int .u8 k1, .int .u32 k2, .int .u32 k3] 68)).drew) := Lib.hid (hJ pre wr _ none hJs ⟨hb4.os, hb4.tape, hb4.output, hb4.size, fun k hk _ => hb4.block k hk⟩ (fun r e => by cases e))
      have HKb : Hid (Blk (wr.alloc (.cells #[.int .u8 k1, .int .u32 k2, .int .u32 k3] 68)).drew wr.heap.size 68 #[.int .u8 k1, .int .u32 k2, .int .u32 k3]) := Lib.hid ((Blk.new wr 68 #[.int .u8 k1, .int .u32 k2, .int .u32 k3]).later (Below.refl _ _).drew)
      have HLim : Hid (∀ gb blk, G gb → Pts (wr.alloc (.cells #[.int .u8 k1, .int .u32 k2, .int .u32 k3] 68)).drew gb blk → blk < (wr.alloc (.cells #[.int .u8 k1, .int .u32 k2, .int .u32 k3] 68)).drew.heap.size) := Lib.hid ((HK2.out.t HK4.out).lim fun gb blk hg hp => absurd hp ((HG.out gb hg).2 blk))
      replace HYs := Lib.hid (HYs.out.kp (KpG.new hb4 (Nat.le_trans HB.out.size (Nat.le_trans HB2.out.size HKr.out.below.size)) hGr) HGB.out)
      clear hb3 hb4 hGr hJs
      gi_wp2
      clear c0 c1 c2
      refine wpIn_region_u rfl (fun W : World => W.cell? ⟨Bs, 0, none⟩ = some (.pointer (some ⟨g, 0, none⟩)) ∧ W.cell? ⟨Bn, 0, none⟩ = some (.int .i64 now) ∧ Blk W wr.heap.size 68 #[.int .u8 k1, .int .u32 k2, .int .u32 k3] ∧ Blk W g 79 #[.map (some bm), .int .i64 most] ∧ MapF keyV W bm (fun k => (f k).map OneE.v) N) 10 [(0, 0, []), (1, 0, []), (2, 0, [3, 4, 5, 7, 9]), (3, 0, [4, 5, 7, 9]), (4, 0, [5, 7, 9]), (5, 0, [7, 9]), (6, 0, [7, 9]), (7, 0, [9]), (8, 0, [9]), (9, 1, []), (10, 2, []), (11, 2, [])] (by kernel_rfl) (fun _ d _ _ _ h => by cases d <;> exact h) ?_
      simp only [List.map_cons, List.map_nil, nthOp_zero, nthOp_succ]
      have HS : Hid ((fun W : World => W.cell? ⟨Bs, 0, none⟩ = some (.pointer (some ⟨g, 0, none⟩)) ∧ W.cell? ⟨Bn, 0, none⟩ = some (.int .i64 now) ∧ Blk W wr.heap.size 68 #[.int .u8 k1, .int .u32 k2, .int .u32 k3] ∧ Blk W g 79 #[.map (some bm), .int .i64 most] ∧ MapF keyV W bm (fun k => (f k).map OneE.v) N) (wr.alloc (.cells #[.int .u8 k1, .int .u32 k2, .int .u32 k3] 68)).drew) := Lib.hid ⟨HC1.out _ (HK2.out.t HK4.out), HC2.out _ (HK2.out.t HK4.out), HKb.out, (HQ.out.later HBr.out).blk, (HQ.out.later HBr.out).map⟩
      clear HKb
      generalize (wr.alloc (.cells #[.int .u8 k1, .int .u32 k2, .int .u32 k3] 68)).drew = w4 at *
      generalize wr.heap.size = gk at *
      refine wpU_take HS (by kernel_rfl) (by intro W _; rfl) (by intro W hW; have j1 := hW.1; have j2 := hW.2.1; have j0 := hW.2.2.2.1.cell 0; simp only [List.getElem?_toArray, List.getElem?_cons_zero] at j0; clear hW; go_simp; try with_reducible rfl) ?_
      refine wpU_take HS (by kernel_rfl) (by intro W _; rfl) (fun W hW => exec_load_row rfl rfl hW.2.2.1 Tryz.underlying68 rfl info_key3) ?_
      refine wpU_take HS (by kernel_rfl) (by intro W _; rfl) (by intro W hW; have j1 := hW.1; have j2 := hW.2.1; have j0 := hW.2.2.2.1.cell 0; simp only [List.getElem?_toArray, List.getElem?_cons_zero] at j0; clear hW; go_simp; try with_reducible rfl) ?_
      go_simp
      refine wpU_take HS (by kernel_rfl) (by intro W _; rfl) (by intro W hW; have j1 := hW.1; have j2 := hW.2.1; have j0 := hW.2.2.2.1.cell 0; simp only [List.getElem?_toArray, List.getElem?_cons_zero] at j0; clear hW; go_simp; try with_reducible rfl) ?_
      refine wpU_take HS (by kernel_rfl) (by intro W _; rfl) (by intro W hW; have j1 := hW.1; have j2 := hW.2.1; have j0 := hW.2.2.2.1.cell 0; simp only [List.getElem?_toArray, List.getElem?_cons_zero] at j0; clear hW; go_simp; try with_reducible rfl) ?_
      refine wpU_take HS (by kernel_rfl) (by intro W _; rfl) (by intro W hW; have j1 := hW.1; have j2 := hW.2.1; have j0 := hW.2.2.2.1.cell 0; simp only [List.getElem?_toArray, List.getElem?_cons_zero] at j0; clear hW; go_simp; try with_reducible rfl) ?_
      go_simp
      refine wpU_take HS (by kernel_rfl) (by intro W _; rfl) (fun W hW => exec_load_row rfl rfl hW.2.2.1 Tryz.underlying68 rfl info_key3) ?_
      refine wpU_take HS (by kernel_rfl) (by intro W _; rfl) (fun W hW => exec_lookupF (a := (k1, k2, k3)) keyT Tryz.underlying77 zeroOne rfl hW.2.2.2.2 rfl rfl) ?_
      simp only [HLK.out]
      refine wpU_take HS (by kernel_rfl) (by intro W _; rfl) (by intro W hW; have j1 := hW.1; have j2 := hW.2.1; have j0 := hW.2.2.2.1.cell 0; simp only [List.getElem?_toArray, List.getElem?_cons_zero] at j0; clear hW; go_simp; try with_reducible rfl) ?_
      refine wpU_do fun K hK => ?_
      go_simp
      have HX4 := Lib.hid ((HQ.out.later HBr.out).good _ _ HX.out)
      gi_wp2
      refine ⟨trivial, ?_⟩
      refine (callsIn_wide.2 (then_any x now w4 HX4.out.2.1 HX4.out.2.2 hnow)).mono ?_
      rintro e w5 ⟨s', rfl, hsh, hso, hsB, hsn, hb5⟩
      have hGw : ∀ gb, G gb → gb < w4.heap.size := fun gb hg => Nat.lt_of_lt_of_le (HG.out gb hg).1 (Nat.le_trans HB2.out.size HK4.out.below.size)
      have HB5 : Hid (Below wS.heap.size wS w5) := Lib.hid (below_then HBr.out hb5)
      have HK5 : Hid (KpG wS.heap.size G w2 w5) := Lib.hid (HK4.out.t (KpG.new hb5 HBr.out.size hGw))
      have HJ5 : Hid (J pre w5) := Lib.hid (hJ pre w4 w5 none HJ4.out ⟨hb5.os, hb5.tape, hb5.output, hb5.size, fun k hk _ => hb5.block k hk⟩ (fun r e => by cases e))
      have HS5 : Hid ((fun W : World => W.cell? ⟨Bs, 0, none⟩ = some (.pointer (some ⟨g, 0, none⟩)) ∧ W.cell? ⟨Bn, 0, none⟩ = some (.int .i64 now) ∧ Blk W gk 68 #[.int .u8 k1, .int .u32 k2, .int .u32 k3] ∧ Blk W g 79 #[.map (some bm), .int .i64 most] ∧ MapF keyV W bm (fun k => (f k).map OneE.v) N) w5) := Lib.hid ⟨HC1.out _ (HK2.out.t HK5.out), HC2.out _ (HK2.out.t HK5.out), HS.out.2.2.1.later hb5, (HQ.out.later HB5.out).blk, (HQ.out.later HB5.out).map⟩
      have HH := Lib.hid (And.intro hsh (And.intro hsB (And.intro hsn hso.head)))
      have hpG : ∀ gb blk, G gb → Pts w5 gb blk → blk < w4.heap.size := fun gb blk hg ⟨o, n, c, hp⟩ => HLim.out gb blk hg ⟨o, n, c, by rw [← hb5.cell (p := ⟨gb, 0, none⟩) (hGw gb hg)]; exact hp⟩
      have HYn : Hid (YsIn w0.heap.size G (yS pre ++ [s']) w5) := Lib.hid ((HYs.out.kp (KpG.new hb5 HBr.out.size hGw) HGB.out).snoc (fun s hs p hp => (own_at (HYs.out.own s hs).1.body hp).2.1) hso (Nat.le_trans HSz.out (Nat.le_trans HB2.out.size HK4.out.below.size)) hpG)
      clear hsh hso hsB hsn hb5 hGw HJ4 HK4 HBr HS hpG HLim HYs
      gi_wp2
      refine hK.out _ _ HS5.out ?_
      clear hK K
      refine wpU_end fun K hK => ?_
      go_simp
      have hlp : pre.length < N := by
        have := congrArg List.length HPre.out
        rw [List.length_map, List.length_take, HKs.out.len] at this
        omega
      obtain ⟨fn, tmps, assign, body, hy, hR⟩ := hY pre ⟨((k1, k2, k3), s'), x, HX.out, HH.out⟩ w5 HJ5.out hlp
      try dsimp only at hy
      gi_wp2
      refine hR.mono ?_
      rintro e W3 ⟨rfl, hJ3, hk3⟩
      gi_wp2
      refine hK.out _ _ ?_
      clear hK K
      refine wpU_end fun K hK => ?_
      go_simp
      gi_wp2
      refine hK.out _ _ ?_
      clear hK K
      refine wpU_nil ?_
      go_simp
      gi_wp2
      go_roundw
      case rel => exact ⟨j + 1, pre ++ [⟨((k1, k2, k3), s'), x, HX.out, HH.out⟩], by simp, by omega, by rw [List.map_append, HPre.out, List.take_add_one, HKj.out]; rfl, hJ3, HK5.out.t hk3, by
        unfold yS
        rw [List.map_append]
        exact HYn.out.kp hk3 HGB.out⟩
      case measure => simp [intOf]; omega
    · obtain rfl : j = N := by omega
      gi_wp2
      go_end0
      have hpe : pre.map (fun p : Ydd f now => p.1.1) = ks := by rw [HPre.out, List.take_of_length_le (by rw [HKs.out.len]; exact Nat.le_refl _)]
      exact ⟨⟨_, rfl⟩, pre, ⟨by rw [hpe]; exact HKs.out, HYs.out⟩, hJs⟩
end Go.Proofs.YtpncbggjngamgaaGreatDoor
namespace Go.Proofs.YtpncbggjngamgaaGreatDoor
set_option linter.unusedVariables false
open Go.RowKit
section
variable {F : Fence} {n : Nat} {P : Program}
/-- The two blocks that a range over a function keeps for itself. -/
def Bks (B : Nat) (R : LoopState → Obj) (st : LoopState) (W : World) : Prop := W.heap[B]? = some (.deferred (some [])) ∧ W.heap[B + 1]? = some (R st)
theorem Bks.kept {B : Nat} {R : LoopState → Obj} {st : LoopState} {W W' : World} (hR : ∀ s, (R s).isCells = false) (h : Bks B R st W) (hk : KeepsFrom B W W') : Bks B R st W' :=
  ⟨hk.same _ _ (Nat.le_refl _) h.1 rfl, hk.same _ _ (Nat.le_succ _) h.2 (hR st)⟩
theorem Bks.turn {B : Nat} {R : LoopState → Obj} {st : LoopState} {W : World} (h : Bks B R st W) (st' : LoopState) : Bks B R st' (W.putObj (B + 1) (R st')) :=
  ⟨(World.putObj_heap_other (by omega)).trans h.1, World.putObj_heap_same (Array.getElem?_eq_some_iff.1 h.2).1⟩
theorem Bks.abides {B C : Nat} {R : LoopState → Obj} {st : LoopState} (hR : ∀ s, (R s).isWalk = false) {β : Type} : AbidesFrom C (fun (_ : β) W => Bks B R st W) := fun _ _ _ _ h hg hr =>
  ⟨(grownBy_keeps hg (fun r e => (hr r e).2) h.1 rfl).trans h.1, (grownBy_keeps hg (fun r e => (hr r e).2) h.2 (hR st)).trans h.2⟩
theorem wpIn_rangeFunc_tells {α : Type} {g : Operand} {ps : Array Tmp} {assign body : Code} {Q : Exit → Act → World → Prop} {a : Act} {w : World}
    (hro : F.round = none) (h1 : 1 ≤ n) {gf : Nat} {lb : Array Value} (hg : a.eval g = .func (.func gf) #[] lb) (hFg : F.fn gf) (eg : ∀ args w, (callFunc gf args).run P w = .ok (.enter gf args) w)
    {encs : α → Array Value} {Kp : World → World → Prop} {S : List α → World → Prop} {N : Nat} {w0 : World}
    (hseq : ∀ (l : Nat) (J : List α → World → Prop) (W : World), Below w0.heap.size w0 W → AbidesFrom W.heap.size J →
      (∀ pre x W1, J pre W1 → pre.length < N → YieldAt F (n - 1 - 1) P l (encs x) W1 fun e W' => e = .returned (.bool true) ∧ J (pre ++ [x]) W' ∧ Kp W1 W') → J [] W →
      CallsIn F (n - 1) P gf (#[.func (.yield l) #[] #[]] ++ lb) W fun e W' => (∃ v, e = .returned v) ∧ ∃ xs, S xs W' ∧ J xs W')
    (hKt : ∀ {A B C : World}, Kp A B → Kp B C → Kp A C) (hKb : ∀ (W : World) (l : Nat) (o o' : Obj), w.heap.size ≤ l → W.heap[l]? = some o → o.isCells = false → o.isWalk = false → Kp W (W.putObj l o'))
    (hb0 : Below w0.heap.size w0 w) (hps : ∀ x, (encs x).size = ps.size)
    (I : List α → World → Prop) (hI : OwnFrom w.heap.size I) (hS : OwnFrom w.heap.size S) (h0 : I [] w) (Ax : α → Act → World → Prop) (hAx : ∀ x a', OwnFrom w.heap.size (fun (_ : Unit) W => Ax x a' W))
    (hassign : ∀ (l : Nat) (pre : List α) (x : α) (W : World) (K : Act → World → Prop), I pre W → (∀ a' W', KeepsFrom w.heap.size W W' → Kp W W' → I pre W' → Ax x a' W' → K a' W') →
      assign.wpIn (F.inRound l) (n - 1 - 1) P (Exit.then K (fun _ _ _ => False)) { tmps := (ps.zip (encs x)).foldl (fun t (p, v) => t.setIfInBounds p v) a.tmps, defers := [] } W)
    (hbody : ∀ (l : Nat) (pre : List α) (x : α) (a' : Act) (W : World), I pre W → Ax x a' W → pre.length < N →
      body.wpIn (F.inRound l) (n - 1 - 1) P (Exit.then (fun _ W' => KeepsFrom w.heap.size W W' ∧ Kp W W' ∧ I (pre ++ [x]) W') (fun _ _ _ => False)) a' W)
    (hdone : ∀ (D : Nat) (xs : List α) (W : World), w.heap.size ≤ D → S xs W → I xs W → W.heap[D]? = some (.deferred (some [])) → Q .normal { a with defers := { target := .collected D, args := #[] } :: a.defers } W) :
    (Code.rangeFunc g ps assign body).wpIn F n P Q a w := by
  refine wpIn_rangeFunc fun fn hfn => ?_
  rw [hro]
  obtain ⟨rec, hrec⟩ : ∃ rec : LoopState → Loop, rec = fun st => { state := st, pending := none, fn, tmps := a.tmps, params := ps, assign, body, defers := w.heap.size } := ⟨_, rfl⟩
  have hin := run_enterLoop_outer (P := P) (w := w) fn a.tmps ps assign body
  obtain ⟨V, hV⟩ : ∃ V, (w.alloc (.deferred (some []))).alloc (.loop (rec .ready)) = V := ⟨_, rfl⟩
  have hbk : Bks w.heap.size (fun st => .loop (rec st)) .ready V := by
    subst hV
    refine ⟨(Below.heap_alloc _ _ _ (by simp)).trans (World.alloc_heap_new w _), ?_⟩
    have := World.alloc_heap_new (w.alloc (.deferred (some []))) (.loop (rec .ready))
    rwa [World.size_alloc] at this
  have hbV : Below w0.heap.size w0 V := by
    subst hV
    exact hb0.trans ((((Below.refl _ w).alloc (Nat.le_refl _) _).alloc (by simp) _).mono hb0.size)
  have hIV : I [] V := by subst hV; exact hI.alloc _ (hI.alloc _ h0)
  have hszV : V.heap.size = w.heap.size + 2 := by subst hV; simp
  have hnc : ∀ s, (Obj.loop (rec s)).isCells = false := fun s => rfl
  have hnw : ∀ s, (Obj.loop (rec s)).isWalk = false := fun s => rfl
  refine ⟨w.heap.size + 1, [{ target := .collected w.heap.size, args := #[] }], V, { target := .fn (.func gf) lb, args := #[.func (.yield (w.heap.size + 1)) #[] #[]] }, V, gf,
    #[.func (.yield (w.heap.size + 1)) #[] #[]] ++ lb, V, ?_, ?_, ?_, ?_, fun _ => h1, ?_⟩
  · rw [hin, ← hV, hrec]
  · simp only [resolve, hg]
    simp [go_sem]
  · intro f hf
    simp [Target.leads] at hf
    subst hf
    exact hFg
  · simp [invoke, go_sem, eg]
  have hcalls := hseq (w.heap.size + 1) (fun pre W => I pre W ∧ Bks w.heap.size (fun st => .loop (rec st)) .ready W) V hbV
    (fun s A B row h hg' hr => ⟨hI s A B row h.1 hg' fun r e => ⟨by have := (hr r e).1; omega, (hr r e).2.imp fun o h => ⟨h.1, Obj.not_cells_of_walk h.2⟩⟩, Bks.abides (β := Unit) hnw () A B row h.2 hg' hr⟩) ?round ⟨hIV, hbk⟩
  case round =>
    rintro pre x W ⟨hi, hk⟩ hlen
    have hy := run_yield (P := P) (args := encs x) hk.2 (by rw [hrec]; exact hps x)
    rw [hrec] at hy
    refine ⟨fn, _, assign, body, hy, roundIn_of_wpIn hfn (hassign _ pre x W _ hi fun a' Wa hka hpa hia hax => ?_)⟩
    have hkA := hk.kept hnc hka
    have hbr := run_beginRound (P := P) hkA.2 (by rw [hrec])
    have hbusy : ({ rec .ready with state := .busy } : Loop) = rec .busy := by rw [hrec]
    rw [hbusy] at hbr
    refine ⟨_, hbr, ?_⟩
    have hk2 := hkA.turn .busy
    have hp2 : Kp Wa (Wa.putObj (w.heap.size + 1) (.loop (rec .busy))) := hKb _ _ _ _ (Nat.le_succ _) hkA.2 rfl rfl
    refine wpIn_mono (hbody _ pre x a' _ (hI.putObj _ hia (Nat.le_succ _) hkA.2 rfl) ((hAx x a').putObj (s := ()) _ hax (Nat.le_succ _) hkA.2 rfl) hlen) ?_
    rintro e a3 W3 hp
    cases e with
    | normal =>
      obtain ⟨hk3, hp3, hi3⟩ := hp
      have hkB := hk2.kept hnc hk3
      have her := run_endRound (P := P) none hkB.2
      have hready : ({ rec .busy with state := if (none : Option Code).isNone then .ready else .done, pending := none } : Loop) = rec .ready := by rw [hrec]; rfl
      rw [hready] at her
      exact ⟨_, _, her, rfl, ⟨hI.putObj _ hi3 (Nat.le_succ _) hkB.2 rfl, hkB.turn .ready⟩, hKt hpa (hKt hp2 (hKt hp3 (hKb _ _ _ _ (Nat.le_succ _) hkB.2 rfl rfl)))⟩
    | ret => exact hp.elim
    | exit id => exact hp.elim
    | goto t => exact hp.elim
    | panic ch => exact hp.elim
    | outgrown => exact hp.elim
  refine hcalls.mono ?_
  rintro e W2 ⟨⟨v, rfl⟩, xs, hs, hi, hk⟩
  have hen := run_endLoop (P := P) hk.2 (by rw [hrec]; simp)
  rw [hrec] at hen
  exact ⟨none, _, hen, hdone _ xs _ (Nat.le_refl _) (hS.putObj _ hs (Nat.le_succ _) hk.2 rfl) (hI.putObj _ hi (Nat.le_succ _) hk.2 rfl) ((World.putObj_heap_other (by omega)).trans hk.1)⟩
end
end Go.Proofs.YtpncbggjngamgaaGreatDoor
namespace Go.Proofs.YtpncbggjngamgaaGreatDoor
set_option linter.unusedVariables false
open Go.RowKit Go.Shelf
attribute [local go_sem] Oper.semAt_some

/-- The iterator that each gives, called in a later world: what it hands on. -/
def EachAt (sv : Value) (now : Int) (f : Ky3 → Option OneE) (N : Nat) (w : World) : Prop :=
  ∀ (l Bs Bn : Nat) (G : Nat → Prop) (w0 W : World) (J : List (Ydd f now) → World → Prop), AbidesFrom W.heap.size J →
    (∀ pre (x : Ydd f now) W1, J pre W1 → pre.length < N → YieldAt Fence.wide 4 Tryz.prog l #[keyV x.1.1, x.1.2.v] W1 fun e W' => e = .returned (.bool true) ∧ J (pre ++ [x]) W' ∧ KpG w.heap.size G W1 W') →
    Below w.heap.size w w0 → (∀ b, G b → b < w0.heap.size ∧ ∀ blk, ¬ Pts w0 b blk) → Below w0.heap.size w0 W →
    w0.cell? ⟨Bs, 0, none⟩ = some sv → w0.cell? ⟨Bn, 0, none⟩ = some (.int .i64 now) → ¬ G Bs → ¬ G Bn → J [] W →
    CallsIn Fence.wide 5 Tryz.prog 79 #[.func (.yield l) #[] #[], .pointer (some ⟨Bs, 0, none⟩), .pointer (some ⟨Bn, 0, none⟩)] W fun e W' => (∃ v, e = .returned v) ∧
      ∃ ys, (KsOf f N (ys.map (fun p : Ydd f now => p.1.1)) ∧ YsIn w0.heap.size G (yS ys) W') ∧ J ys W'
theorem eachAt_of {g bm N : Nat} {most now : Int} {f : Ky3 → Option OneE} {w : World} (q : StF w g bm most f N) (hnow : 0 ≤ now ∧ now ≤ 9223372036854775807) (hN : N ≤ 1048576) : EachAt (.pointer (some ⟨g, 0, none⟩)) now f N w :=
  fun l Bs Bn G w0 W J hJ hY hS hg hb hs ht h1 h2 h0 => each_in l Bs Bn g bm most f N now w w0 W G J hJ hY q hS hg hb hs ht h1 h2 hnow hN h0
theorem ksOf_none : KsOf (fun _ => none) 0 [] := ⟨fun k => by simp, fun i j a b _ h => by simp at h, rfl⟩
theorem eachAt_neg {g bm N : Nat} {most now : Int} {f : Ky3 → Option OneE} {w : World} (q : StF w g bm most f N) (hnow : now < 0) : EachAt (.pointer (some ⟨g, 0, none⟩)) now (fun _ => none) 0 w := by
  intro l Bs Bn G w0 W J hJ hY hS hg hb hs ht h1 h2 h0
  have j1 := (hb.cell (p := ⟨Bs, 0, none⟩) (cell_lt hs)).trans hs
  have j2 := (hb.cell (p := ⟨Bn, 0, none⟩) (cell_lt ht)).trans ht
  have j3 : W.cell? ⟨g, 0, none⟩ = some (.map (some bm)) := (q.later (hS.trans (hb.mono hS.size))).blk.cell 0
  have HN := Lib.hid (stnone_any W g bm j3)
  have dn : decide (now < 0) = true := decide_eq_true hnow
  have H0 := Lib.hid h0
  clear q hS hb hs ht j3 h0
  refine callsIn_of_wp Tryz.func79 rfl trivial ?_ rfl
  simp only [Tryz.ntmps79, List.size_toArray, List.length_cons, List.length_nil, Nat.reduceAdd, Nat.reduceSub, Array.replicate_succ, Array.replicate_zero, List.push_toArray, List.append_toArray, List.nil_append, List.cons_append]
  refine wpIn_wide.2 ?_
  go_wp2_with (go_at_call 28; refine HN.out.mono ?_; rintro e w' ⟨rfl, rfl⟩)
  refine bodyPost_ret (results_none rfl _ _ _) rfl ?_
  exact ⟨⟨_, rfl⟩, [], ⟨ksOf_none, ⟨fun s h => by simp [yS] at h, List.Pairwise.nil⟩⟩, H0.out⟩
/-- The iterator of no store: it hands on nothing. -/
theorem eachAt_none {sv : Value} {now : Int} {w : World} (hn : ∀ W : World, Below w.heap.size w W → Calls Tryz.prog 28 #[sv] W fun e w' => e = .returned (.bool true) ∧ W = w') : EachAt sv now (fun _ => none) 0 w := by
  intro l Bs Bn G w0 W J hJ hY hS hg hb hs ht h1 h2 h0
  have j1 := (hb.cell (p := ⟨Bs, 0, none⟩) (cell_lt hs)).trans hs
  have j2 := (hb.cell (p := ⟨Bn, 0, none⟩) (cell_lt ht)).trans ht
  have HN := Lib.hid (hn W (hS.trans (hb.mono hS.size)))
  have H0 := Lib.hid h0
  clear hn hS hb hs ht h0
  refine callsIn_of_wp Tryz.func79 rfl trivial ?_ rfl
  simp only [Tryz.ntmps79, List.size_toArray, List.length_cons, List.length_nil, Nat.reduceAdd, Nat.reduceSub, Array.replicate_succ, Array.replicate_zero, List.push_toArray, List.append_toArray, List.nil_append, List.cons_append]
  refine wpIn_wide.2 ?_
  go_wp2_with (go_at_call 28; refine HN.out.mono ?_; rintro e w' ⟨rfl, rfl⟩)
  refine bodyPost_ret (results_none rfl _ _ _) rfl ?_
  exact ⟨⟨_, rfl⟩, [], ⟨ksOf_none, ⟨fun s h => by simp [yS] at h, List.Pairwise.nil⟩⟩, H0.out⟩
theorem steach_any (sp : Option Addr) (now : Int) (w : World) :
    Calls Tryz.prog 63 #[.pointer sp, .int .i64 now] w fun e w' => e = .returned (.func (.func 79) #[] #[.pointer (some ⟨w.heap.size, 0, none⟩), .pointer (some ⟨w.heap.size + 1, 0, none⟩)]) ∧
      w' = (w.alloc (.cells #[.pointer sp] 25)).alloc (.cells #[.int .i64 now] 3) := by
  go_enter Tryz.func63, Tryz.ntmps63
  go_wp2
  go_ret
  exact ⟨rfl, rfl⟩

/-! ### What is gathered in a box -/
structure Gat (T t : TypeId) (size n₀ gb : Nat) (w1 : World) (k : Nat) (xs : List Value) (W : World) : Prop where
  ex : ∃ v, Blk W gb T #[v] ∧ W.ownsRow gb t size v k xs
  kp : KpG n₀ (fun b => b = gb) w1 W
theorem Pts.turn {W W' : World} {row : Option Nat} {gb blk : Nat} (hg : W.grownBy W' row) (hne : some gb ≠ row) (hl : gb < W.heap.size) (h : Pts W' gb blk) : Pts W gb blk := by
  obtain ⟨o, n, c, h⟩ := h
  refine ⟨o, n, c, ?_⟩
  rw [← h]
  exact (World.cell?_of_block (a := ⟨gb, 0, none⟩) (hg.block gb hl hne)).symm
theorem Gat.own {T t : TypeId} {size n₀ gb B : Nat} {w1 : World} {β : Type} {k : β → Nat} {xs : β → List Value} (hn : n₀ ≤ gb) (hg : gb < B) :
    OwnFrom B (fun (s : β) W => Gat T t size n₀ gb w1 (k s) (xs s) W) := by
  intro s W W' row h hgr hr
  obtain ⟨⟨v, hB, ho⟩, hk⟩ := h
  have hl : gb < W.heap.size := (Array.getElem?_eq_some_iff.1 hB).1
  have hne : some gb ≠ row := fun e => by have := (hr gb e.symm).1; omega
  refine ⟨⟨v, blk_ownF (β := Unit) () W W' row hB hgr hr, row_ownF (β := Unit) () W W' row ho hgr hr⟩, ?_⟩
  have hk2 : KpG n₀ (fun b => b = gb) W W' := by
    refine ⟨?_, fun i cs t fz hi _ _ => ?_, fun b blk hb hp => ?_, fun hlim b blk hb hp => ?_⟩
    · have hns : n₀ ≤ W.heap.size := by omega
      exact (Below.refl n₀ W).grown hgr hns (fun r e => by have := (hr r e).1; omega)
    · refine (hgr.block i (Array.getElem?_eq_some_iff.1 hi).1 (fun e => ?_)).trans hi
      obtain ⟨_, o, ho, hc⟩ := hr i e.symm
      rw [hi] at ho; cases ho; cases hc
    · subst hb; exact .inl (hp.turn hgr hne hl)
    · subst hb; have := hlim b blk rfl (hp.turn hgr hne hl); exact Nat.lt_of_lt_of_le this hgr.size
  exact hk.t hk2
theorem kp_step {T t : TypeId} {size n₀ gb k k' : Nat} {xs xs' : List Value} {v v3 : Value} {W W2 w3 : World} (hB : Blk W gb T #[v]) (ho : W.ownsRow gb t size v k xs) (hne : t ≠ T) (hb : Below W.heap.size W W2) (hg : W2.grownBy w3 v.ownBlock)
    (h4 : v3.ownBlock = v.ownBlock ∨ v3.ownBlock = some W2.heap.size) (ho3 : w3.ownsRow gb t size v3 k' xs') (hn : n₀ ≤ gb) : KpG n₀ (fun b => b = gb) W (w3.setCell ⟨gb, 0, none⟩ v3) := by
  have hl : gb < W.heap.size := (Array.getElem?_eq_some_iff.1 hB).1
  have hob : ∀ i, v.ownBlock = some i → gb ≤ i ∧ Pts W gb i ∧ i < W.heap.size := by
    intro i hi
    rcases ho.2 with ⟨rfl, _⟩ | ⟨g', cap, cur, rfl, h1, h2, _⟩
    · cases hi
    · have : g' = i := by simpa [Value.ownBlock] using hi
      subst this
      exact ⟨h1, ⟨0, k, cap, hB.cell 0⟩, (Array.getElem?_eq_some_iff.1 h2).1⟩
  have hnb : some gb ≠ v.ownBlock := fun e => (OwnW.of_own ho).ne_blk hB hne e.symm
  have hB2 : Blk W2 gb T #[v] := hB.later hb
  have hB3 : Blk w3 gb T #[v] := hB2.grown hg hnb
  have hsz : W.heap.size ≤ w3.heap.size := Nat.le_trans hb.size hg.size
  have hpts : ∀ blk, Pts (w3.setCell ⟨gb, 0, none⟩ v3) gb blk → v3.ownBlock = some blk := by
    rintro blk ⟨o, n, c, hp⟩
    have h5 : (w3.setCell ⟨gb, 0, none⟩ v3).cell? ⟨gb, 0, none⟩ = some v3 := (hB3.set_ 0 v3).cell 0
    rw [h5] at hp
    injection hp with hp
    subst hp
    rfl
  have hlt3 : ∀ blk, v3.ownBlock = some blk → blk < w3.heap.size := by
    intro blk hi
    rcases ho3.2 with ⟨rfl, _⟩ | ⟨g', cap, cur, rfl, h1, h2, _⟩
    · cases hi
    · have : g' = blk := by simpa [Value.ownBlock] using hi
      subst this
      exact (Array.getElem?_eq_some_iff.1 h2).1
  refine ⟨?_, fun i cs t fz hi hgi hp => ?_, fun b blk hbb hp => ?_, fun hlim b blk hbb hp => ?_⟩
  · refine Below.setCell (p := ⟨gb, 0, none⟩) ?_ hn v3
    have h6 : Below n₀ W W2 := hb.mono (by omega)
    exact h6.grown hg (by have := h6.size; omega) (fun i e => by have := (hob i e).1; omega)
  · have hi1 := (Array.getElem?_eq_some_iff.1 hi).1
    have hne2 : i ≠ gb := hgi
    have h7 : (w3.setCell ⟨gb, 0, none⟩ v3).heap[i]? = w3.heap[i]? := (grownBy_setCell' w3 gb v3).block i (by omega) (fun e => hne2 (by cases e; rfl))
    rw [h7, hg.block i (by have := hb.size; omega) (fun e => hp gb rfl (hob i e.symm).2.1), hb.block i hi1]
    exact hi
  · subst hbb
    rcases h4 with h4 | h4
    · exact .inl (hob blk (h4.symm.trans (hpts blk hp))).2.1
    · have := (hpts blk hp).symm.trans h4
      injection this with this
      exact .inr (by rw [this]; exact hb.size)
  · have := hlt3 blk (by subst hbb; exact hpts blk hp)
    have h8 := (grownBy_setCell' w3 gb v3).size
    subst hbb
    exact Nat.lt_of_lt_of_le this h8
theorem gat_step {T t : TypeId} {size n₀ gb k k' : Nat} {xs xs' : List Value} {v v3 : Value} {w1 W W2 w3 : World} {B : Nat} (hB : Blk W gb T #[v]) (ho : W.ownsRow gb t size v k xs) (hne : t ≠ T) (hb : Below W.heap.size W W2) (hg : W2.grownBy w3 v.ownBlock)
    (h4 : v3.ownBlock = v.ownBlock ∨ v3.ownBlock = some W2.heap.size) (ho3 : w3.ownsRow gb t size v3 k' xs') (hn : n₀ ≤ gb) (hk : KpG n₀ (fun b => b = gb) w1 W) (ho2 : W2.ownsRow gb t size v k xs) :
    KeepsFrom B W (w3.setCell ⟨gb, 0, none⟩ v3) ∧ KpG n₀ (fun b => b = gb) W (w3.setCell ⟨gb, 0, none⟩ v3) ∧ Gat T t size n₀ gb w1 k' xs' (w3.setCell ⟨gb, 0, none⟩ v3) := by
  have hkp := kp_step hB ho hne hb hg h4 ho3 hn
  have hB3 : Blk w3 gb T #[v] := (hB.later hb).grown hg (fun e => (OwnW.of_own ho).ne_blk hB hne e.symm)
  refine ⟨((keepsF_below hb).trans (keeps_row ho2 hg)).trans ((KeepsOthers.setCell w3 ⟨gb, 0, none⟩ v3).from B), hkp, ⟨v3, hB3.set_ 0 v3, ?_⟩, hk.t hkp⟩
  exact ho3.kept (grownBy_setCell' w3 gb v3) (.inr (fun e => (OwnW.of_own ho3).ne_blk hB3 hne e))
/-- The states that were handed on: each body a row of its own. -/
structure YsOk (B : Nat) (ss : List SE) (W : World) : Prop where
  own : ∀ s ∈ ss, s.ok B W
  sep : ss.Pairwise fun a b => ∀ p q, a.A = some p → b.A = some q → p.block ≠ q.block
theorem YsIn.ok {B : Nat} {G : Nat → Prop} {ss : List SE} {W : World} (h : YsIn B G ss W) : YsOk B ss W := ⟨fun s hs => (h.own s hs).1, h.sep⟩
theorem ysOk_own {B C : Nat} : OwnFrom C (fun ss W => YsOk B ss W) := fun ss W W' row h hg hr =>
  ⟨fun s hs => ⟨(h.own s hs).head, row_ownF (β := Unit) () W W' row (h.own s hs).body hg hr, (h.own s hs).oct, (h.own s hs).len⟩, h.sep⟩
theorem YsOk.later {B : Nat} {ss : List SE} {W W' : World} (h : YsOk B ss W) (hb : Below W.heap.size W W') : YsOk B ss W' := ⟨fun s hs => (h.own s hs).later hb, h.sep⟩
theorem YsOk.mono {B B' : Nat} {ss : List SE} {W : World} (h : YsOk B ss W) (hb : B' ≤ B) : YsOk B' ss W := ⟨fun s hs => (h.own s hs).mono hb, h.sep⟩
/-- A store's state at a key, as old as a time says. -/
def hAt (f : Ky3 → Option OneE) (now : Int) (k : Ky3) : Hd := ((f k).getD zOne).headAt now
def bAt (f : Ky3 → Option OneE) (k : Ky3) : List Int := ((f k).getD zOne).s.B
theorem Ydd.h {f : Ky3 → Option OneE} {now : Int} (p : Ydd f now) : p.1.2.h = hAt f now p.1.1 ∧ p.1.2.B = bAt f p.1.1 ∧ p.1.2.h.ok := by
  obtain ⟨p, x, h1, h2, h3, _, h5⟩ := p
  unfold hAt bAt
  show p.2.h = ((f p.1).getD zOne).headAt now ∧ p.2.B = ((f p.1).getD zOne).s.B ∧ p.2.h.ok
  rw [h1]
  exact ⟨h2, h3, h5⟩
@[reducible] def boxV (a : Nat) : Value := .pointer (some ⟨a, 0, none⟩)
def stL (s : SE) : List Value := (stC s.h s.A s.n s.c).toList
theorem stL_one (s : SE) : ∀ u ∈ stL s, u.oneCell' = true := by intro u hu; simp [stL, stC] at hu; rcases hu with rfl | rfl | rfl | rfl | rfl | rfl | rfl | rfl | rfl <;> rfl
theorem hd_one (h : Hd) : ∀ u ∈ h.cells, u.oneCell' = true := by intro u hu; simp [Hd.cells] at hu; rcases hu with rfl | rfl | rfl | rfl | rfl | rfl | rfl | rfl <;> rfl
theorem el_head : El Tryz.prog 89 58 8 20 := El.mk' Tryz.underlying89 (z := .agg #[.int .u16 0, .int .u8 0, .int .u8 0, .int .u32 0, .int .u32 0, .int .i32 0, .int .u16 0, .int .u16 0]) (by kernel_rfl) rfl (by omega)
theorem el_state : El Tryz.prog 87 61 9 48 := El.mk' Tryz.underlying87 (z := .agg zC) (by kernel_rfl) rfl (by omega)
theorem wpListIn_app4 {F : Fence} {N : Nat} {P : Program} {ops : Array Oper} {rest : List Oper} {o : Oper} {a : Act} {Q : Exit → Act → World → Prop} {w : World} {t e : TypeId} {size bytes : Nat} (E : El P t e size bytes)
    (hgd : o.guard = none) (s x : Operand) (ho : o.op = .call { callee := .builtin .append, args := #[s, x], argTypes := #[t, t] })
    {base : Nat} {v : Value} {n : Nat} {xs : List Value} (hown : w.ownsRow base e size v n xs) (hs : a.eval s = v)
    {B : Nat} {A : Option Addr} {m c : Nat} {news : List Value} (hr : Reads w B size A m news) (hx : a.eval x = .slice A m c) (h1 : ∀ u ∈ news, u.oneCell' = true)
    (h63 : n + m ≤ maxLen) (hbytes : (n + m) * bytes ≤ 140737488355328) (hbase : base ≤ w.heap.size)
    (h : ∀ v' w', w'.ownsRow base e size v' (n + m) (xs ++ news) → w.grownBy w' v.ownBlock → (v'.ownBlock = v.ownBlock ∨ v'.ownBlock = some w.heap.size) → wpListIn F N P ops Q rest (a.put o.dst v') w') :
    wpListIn F N P ops Q (o :: rest) a w := by
  refine wpListIn_plain hgd fun K hK' => ?_
  obtain ⟨v', w', hrun, h2, h3, h4⟩ := run_app E o.type hown c hr h1 h63 hbytes hbase
  unfold Oper.wpIn
  refine ⟨?_, ?_⟩
  · simp [Oper.about, ho, resolve, Target.leads, Sem.run_pure]
  · rw [Oper.semAt_plain F _ _ (by rw [ho]; intro c hc'; cases hc')]
    simp [execOp, ho, resolve, invoke, builtin, hs, hx, hrun, Result.andThen]
    exact hK' _ _ (h v' w' h2 h3 h4)
end Go.Proofs.YtpncbggjngamgaaGreatDoor
namespace Go.Proofs.YtpncbggjngamgaaGreatDoor
set_option linter.unusedVariables false
open Go.RowKit Go.Shelf
attribute [local go_sem] Oper.semAt_some

theorem flat_cong {α β : Type} {l : List α} {f g : α → List β} (h : ∀ x ∈ l, f x = g x) : l.flatMap f = l.flatMap g := by
  rw [List.flatMap_def, List.flatMap_def, List.map_congr_left h]
theorem Gat.cast {T t : TypeId} {size n₀ gb k k' : Nat} {w1 W : World} {xs xs' : List Value} (h : Gat T t size n₀ gb w1 k xs W) (hk : k' = k) (hx : xs' = xs) : Gat T t size n₀ gb w1 k' xs' W := by subst hk; subst hx; exact h
def dueK (f : Ky3 → Option OneE) (now : Int) (ks : List Ky3) : List Ky3 := ks.filter fun k => oldA (hAt f now k).age

set_option maxRecDepth 100000 in
set_option maxHeartbeats 4000000 in
theorem stheads_any (sp : Option Addr) (now : Int) (f : Ky3 → Option OneE) (N : Nat) (w : World) (HE : EachAt (.pointer sp) now f N w) (hN : N ≤ 1048576) :
    Calls Tryz.prog 30 #[.pointer sp, .int .i64 now] w fun e w' => ∃ v ks, e = .returned v ∧ KsOf f N ks ∧ w'.ownsRow w.heap.size 58 8 v N ((ks.map (hAt f now)).flatMap Hd.cells) ∧ Below w.heap.size w w' := by
  have HEs := Lib.hid HE
  clear HE
  refine (callsIn_wide (n := 6)).1 (callsIn_of_wp_marks Tryz.func30 rfl trivial ?_ rfl)
  simp only [Tryz.ntmps30, List.size_toArray, List.length_cons, List.length_nil, Nat.reduceAdd, Nat.reduceSub, Array.replicate_succ, Array.replicate_zero, List.push_toArray, List.append_toArray, List.nil_append, List.cons_append]
  refine wpIn_wide.2 ?_
  go_wp2_with (go_at_call 63; refine (steach_any _ _ _).mono ?_; rintro e w2 ⟨rfl, hw2⟩)
  rw [← hw2]
  have hb2 : Below w.heap.size w w2 := by
    subst hw2
    exact ((below_two w _ _).alloc (by simp; omega) _)
  have hB2 : Blk w2 w.heap.size 89 #[.slice none 0 0] := by
    subst hw2
    exact ((Blk.new w 89 #[.slice none 0 0]).alloc _).alloc _
  have hs2 : w2.cell? ⟨w.heap.size + 1, 0, none⟩ = some (.pointer sp) := by
    subst hw2
    have h := ((Blk.new (w.alloc (.cells #[.slice none 0 0] 89)) 25 #[.pointer sp]).alloc (.cells #[.int .i64 now] 3)).cell 0
    rw [World.size_alloc] at h
    exact h
  have ht2 : w2.cell? ⟨w.heap.size + 1 + 1, 0, none⟩ = some (.int .i64 now) := by
    subst hw2
    have h := (Blk.new ((w.alloc (.cells #[.slice none 0 0] 89)).alloc (.cells #[.pointer sp] 25)) 3 #[.int .i64 now]).cell 0
    rw [World.size_alloc, World.size_alloc] at h
    exact h
  have hsz2 : w2.heap.size = w.heap.size + 3 := by subst hw2; simp
  clear hw2
  have hnp : ∀ blk, ¬ Pts w2 w.heap.size blk := by
    rintro blk ⟨o, n, c, h⟩
    have := hB2.cell 0
    rw [this] at h
    cases h
  have HB2 := Lib.hid hb2
  generalize hs0 : w.heap.size = gb at *
  refine (wpIn_wide (n := 6)).1 ?_
  refine wpIn_rangeFunc_tells (α := Ydd f now) rfl (by decide) (gf := 79) (lb := #[boxV (gb + 1), boxV (gb + 1 + 1)]) rfl trivial (enters_of Tryz.func79 (by kernel_rfl) rfl)
    (encs := fun x => #[keyV x.1.1, x.1.2.v]) (Kp := KpG gb (fun b => b = gb)) (S := fun ys W => KsOf f N (ys.map (fun p : Ydd f now => p.1.1)) ∧ YsOk w2.heap.size (yS ys) W) (N := N) (w0 := w2)
    (fun l J W hW hJ hY h0 => by
      refine (HEs.out l (gb + 1) (gb + 1 + 1) (fun b => b = gb) w2 W J hJ (by rw [hs0]; exact hY) (by rw [hs0]; exact HB2.out) (fun b hb => by subst hb; exact ⟨by omega, hnp⟩) hW hs2 ht2 (by omega) (by omega) h0).mono ?_
      rintro e W' ⟨h1, ys, ⟨h2, h3⟩, h4⟩
      exact ⟨h1, ys, ⟨h2, h3.ok⟩, h4⟩)
    KpG.t (fun W l o o' hl h hc hw => KpG.b (by omega) W l o o' hl h hc hw (fun b hb => by subst hb; omega)) (Below.refl _ _) (fun _ => rfl)
    (fun pre W => Gat 89 58 8 gb gb w2 ((fun pre : List (Ydd f now) => pre.length) pre) ((fun pre : List (Ydd f now) => pre.flatMap fun p => p.1.2.h.cells) pre) W) (Gat.own (Nat.le_refl _) (by omega))
    (fun s A B row h hg hr => ⟨h.1, ysOk_own _ A B row h.2 hg hr⟩)
    ⟨⟨_, hB2, World.ownsRow_nil _ _ _ _⟩, KpG.new (Below.refl _ _) (by omega) (fun b hb => by subst hb; omega)⟩
    (fun x a' W => ∃ By, Blk W By 61 (stL x.1.2).toArray ∧ a' = { tmps := #[.pointer sp, .int .i64 now, undef, undef, .slice none 0 0, boxV gb, undef, boxV By, .pointer sp, .int .i64 now, .func (.func 79) #[] #[boxV (gb + 1), boxV (gb + 1 + 1)], keyV x.1.1, x.1.2.v, undef, undef, undef, undef, undef, undef], defers := [] })
    (fun x a' s W W' row h hg hr => by
      obtain ⟨By, hB, h9⟩ := h
      exact ⟨By, blk_ownF (β := Unit) () W W' row hB hg hr, h9⟩)
    ?assign ?body ?done
  case assign =>
    intro l pre x W K hI hK
    have hgW : gb < W.heap.size := by obtain ⟨⟨v, hB, _⟩, _⟩ := hI; exact (Array.getElem?_eq_some_iff.1 hB).1
    have hB : Below W.heap.size W (W.alloc (.cells (stC x.1.2.h x.1.2.A x.1.2.n x.1.2.c) 61)) := (Below.refl _ _).alloc (Nat.le_refl _) _
    gi_wp2
    exact hK _ _ (keepsF_below hB) (KpG.new hB (by omega) (fun b hb => by subst hb; omega)) ⟨hI.ex.imp fun v h => ⟨h.1.later hB, own_kept h.2 (Kept.of_new hB (fun _ => False)) (fun _ _ h => h)⟩, hI.kp.t (KpG.new hB (by omega) (fun b hb => by subst hb; omega))⟩ ⟨W.heap.size, Blk.new _ _ _, rfl⟩
  case body =>
    rintro l pre x a' W ⟨⟨v, hB, hrow⟩, hkp⟩ ⟨By, bX, rfl⟩ hlt
    obtain ⟨⟨⟨k1, k2, k3⟩, ⟨hage, hopts, htyp, hid, hadv, hseq, hsum, hlen⟩, sA, sn, sc, sB⟩, hp⟩ : ∃ p, x.1 = p := ⟨_, rfl⟩
    have HP := Lib.hid hp
    rw [hp] at bX ⊢
    clear hp
    dsimp only at hrow
    obtain ⟨vA, vc, rfl, -⟩ := (OwnW.of_own hrow).shape
    have hgW : gb < W.heap.size := (Array.getElem?_eq_some_iff.1 hB).1
    have hgy : gb ≠ By := fun e => by subst e; have h1 := hB.symm.trans bX; injection h1 with h1; injection h1 with h1 h2; exact absurd h2 (by decide)
    have bX' : Blk W By 61 #[.int .u16 hage, .int .u8 hopts, .int .u8 htyp, .int .u32 hid, .int .u32 hadv, .int .i32 hseq, .int .u16 hsum, .int .u16 hlen, .slice sA sn sc] := bX
    have k0 := hB.cell 0
    have j0 := bX'.cell 0; have j1 := bX'.cell 1; have j2 := bX'.cell 2; have j3 := bX'.cell 3; have j4 := bX'.cell 4; have j5 := bX'.cell 5; have j6 := bX'.cell 6; have j7 := bX'.cell 7; have j8 := bX'.cell 8
    simp only [List.getElem?_toArray, List.getElem?_cons_zero, List.getElem?_cons_succ] at k0 j0 j1 j2 j3 j4 j5 j6 j7 j8
    have HB := Lib.hid hB
    have HO := Lib.hid hrow
    have HKP := Lib.hid hkp
    have HBX := Lib.hid bX'
    have HBW : Hid (Below W.heap.size W (W.alloc (.cells #[.int .u16 hage, .int .u8 hopts, .int .u8 htyp, .int .u32 hid, .int .u32 hadv, .int .i32 hseq, .int .u16 hsum, .int .u16 hlen] 58))) := Lib.hid ((Below.refl _ _).alloc (Nat.le_refl _) _)
    have HR := Lib.hid (hrow.alloc (.cells #[.int .u16 hage, .int .u8 hopts, .int .u8 htyp, .int .u32 hid, .int .u32 hadv, .int .i32 hseq, .int .u16 hsum, .int .u16 hlen] 58))
    have HX : Hid (Reads (W.alloc (.cells #[.int .u16 hage, .int .u8 hopts, .int .u8 htyp, .int .u32 hid, .int .u32 hadv, .int .i32 hseq, .int .u16 hsum, .int .u16 hlen] 58)) (W.heap.size + 1) 8 (some ⟨W.heap.size, 0, none⟩) 1 (Hd.cells ⟨hage, hopts, htyp, hid, hadv, hseq, hsum, hlen⟩)) :=
      Lib.hid ⟨rfl, fun _ => ⟨_, rfl, Nat.lt_succ_self _, fun j u hu => by rw [add_none, Nat.zero_add, (Blk.new W 58 #[.int .u16 hage, .int .u8 hopts, .int .u8 htyp, .int .u32 hid, .int .u32 hadv, .int .i32 hseq, .int .u16 hsum, .int .u16 hlen]).cell]; simpa [Hd.cells] using hu⟩⟩
    clear hB hrow hkp bX bX'
    have hkl : pre.length ≤ N := by omega
    gi_wp2_with (first
      | (gi_at_builtin; refine wpListIn_app4 el_head rfl (.tmp 13) (.tmp 16) rfl HR.out rfl HX.out rfl (hd_one _) (by simp only [maxLen]; omega) (by omega) (by rw [World.size_alloc]; omega) ?_; intro v3 w3 ho3 hg3 h43; obtain ⟨A3, c3, rfl, -⟩ := (OwnW.of_own ho3).shape; have HBG := Lib.hid (((HB.out.later HBW.out).grown hg3 (fun e => (OwnW.of_own HO.out).ne_blk HB.out (by decide) e.symm))); have HSt := Lib.hid (And.intro ho3 (And.intro hg3 h43)); have k3 := HBG.out.cell 0; simp only [List.getElem?_toArray, List.getElem?_cons_zero] at k3; have f3 := HBG.out.frozen 0; clear ho3 hg3 h43))
    have hst := gat_step (B := w2.heap.size) HB.out HO.out (by decide) HBW.out HSt.out.2.1 HSt.out.2.2 HSt.out.1 (Nat.le_refl gb) HKP.out HR.out
    refine ⟨hst.1, hst.2.1, ?_⟩
    have h9 := hst.2.2
    exact h9.cast (by rw [List.length_append, List.length_singleton]) (by rw [List.flatMap_append, List.flatMap_singleton, HP.out])
  case done =>
    rintro D ys W hD ⟨hks, hys⟩ hI hK
    have HI := Lib.hid ((Gat.own (T := 89) (t := 58) (size := 8) (w1 := w2) (β := Unit) (k := fun _ => (fun pre : List (Ydd f now) => pre.length) ys) (xs := fun _ => (fun pre : List (Ydd f now) => pre.flatMap fun p => p.1.2.h.cells) ys) (Nat.le_refl gb) (B := w2.heap.size) (by omega)).putObj (s := ()) (.deferred none) hI hD hK rfl)
    have HY := Lib.hid (ysOk_own.putObj (.deferred none) hys hD hK rfl)
    have HKs := Lib.hid hks
    obtain ⟨⟨v, hBv, hov⟩, hkp⟩ := hI
    obtain ⟨A9, c9, rfl, -⟩ := (OwnW.of_own hov).shape
    have k0 := hBv.cell 0
    simp only [List.getElem?_toArray, List.getElem?_cons_zero] at k0
    clear hov hkp hks hys
    go_wp2
    refine ⟨by simp, .inl ⟨_, _, rfl, run_takeDeferred hK, ?_⟩⟩
    refine ⟨_, results_tmp rfl _ _ _, ?_⟩
    have hB9 : Blk (W.putObj D (.deferred none)) gb 89 #[.slice A9 ((fun pre : List (Ydd f now) => pre.length) ys) c9] := (World.putObj_heap_other (by omega)).trans hBv
    obtain ⟨v9, hv9, ho9⟩ := HI.out.ex
    have hvv : v9 = .slice A9 ((fun pre : List (Ydd f now) => pre.length) ys) c9 := by
      have h1 : some (Obj.cells #[v9] 89) = some (Obj.cells #[.slice A9 ((fun pre : List (Ydd f now) => pre.length) ys) c9] 89) := hv9.symm.trans hB9
      injection h1 with h1
      injection h1 with h1
      injection h1 with h1
      injection h1
    subst hvv
    have HBE := Lib.hid (HB2.out.trans HI.out.kp.below)
    have hlen9 : ys.length = N := by have := HKs.out.len; rw [List.length_map] at this; exact this
    refine ⟨_, rfl, _, HKs.out, ?_, HBE.out⟩
    have hflat : (List.map (hAt f now) (ys.map (fun p : Ydd f now => p.1.1))).flatMap Hd.cells = ys.flatMap fun p => p.1.2.h.cells := by
      rw [List.flatMap_map, List.flatMap_map]
      refine flat_cong fun p hp => ?_
      rw [p.h.1]
    rw [hflat]
    dsimp only at ho9
    rw [hlen9] at ho9 ⊢
    exact ho9

set_option maxRecDepth 100000 in
set_option maxHeartbeats 4000000 in
theorem stall_any (sp : Option Addr) (now : Int) (f : Ky3 → Option OneE) (N : Nat) (w : World) (HE : EachAt (.pointer sp) now f N w) (hN : N ≤ 1048576) :
    Calls Tryz.prog 29 #[.pointer sp, .int .i64 now] w fun e w' => ∃ v, e = .returned v ∧ ∃ ks, KsOf f N ks ∧ ∃ ss, ss.map SE.h = ks.map (hAt f now) ∧ ss.map SE.B = ks.map (bAt f) ∧ YsOk w.heap.size ss w' ∧ w'.ownsRow w.heap.size 61 9 v N (ss.flatMap stL) ∧ Below w.heap.size w w' := by
  have HEs := Lib.hid HE
  clear HE
  refine (callsIn_wide (n := 6)).1 (callsIn_of_wp_marks Tryz.func29 rfl trivial ?_ rfl)
  simp only [Tryz.ntmps29, List.size_toArray, List.length_cons, List.length_nil, Nat.reduceAdd, Nat.reduceSub, Array.replicate_succ, Array.replicate_zero, List.push_toArray, List.append_toArray, List.nil_append, List.cons_append]
  refine wpIn_wide.2 ?_
  go_wp2_with (go_at_call 63; refine (steach_any _ _ _).mono ?_; rintro e w2 ⟨rfl, hw2⟩)
  rw [← hw2]
  have hb2 : Below w.heap.size w w2 := by
    subst hw2
    exact ((below_two w _ _).alloc (by simp; omega) _)
  have hB2 : Blk w2 w.heap.size 87 #[.slice none 0 0] := by
    subst hw2
    exact ((Blk.new w 87 #[.slice none 0 0]).alloc _).alloc _
  have hs2 : w2.cell? ⟨w.heap.size + 1, 0, none⟩ = some (.pointer sp) := by
    subst hw2
    have h := ((Blk.new (w.alloc (.cells #[.slice none 0 0] 87)) 25 #[.pointer sp]).alloc (.cells #[.int .i64 now] 3)).cell 0
    rw [World.size_alloc] at h
    exact h
  have ht2 : w2.cell? ⟨w.heap.size + 1 + 1, 0, none⟩ = some (.int .i64 now) := by
    subst hw2
    have h := (Blk.new ((w.alloc (.cells #[.slice none 0 0] 87)).alloc (.cells #[.pointer sp] 25)) 3 #[.int .i64 now]).cell 0
    rw [World.size_alloc, World.size_alloc] at h
    exact h
  have hsz2 : w2.heap.size = w.heap.size + 3 := by subst hw2; simp
  clear hw2
  have hnp : ∀ blk, ¬ Pts w2 w.heap.size blk := by
    rintro blk ⟨o, n, c, h⟩
    have := hB2.cell 0
    rw [this] at h
    cases h
  have HB2 := Lib.hid hb2
  generalize hs0 : w.heap.size = gb at *
  refine (wpIn_wide (n := 6)).1 ?_
  refine wpIn_rangeFunc_tells (α := Ydd f now) rfl (by decide) (gf := 79) (lb := #[boxV (gb + 1), boxV (gb + 1 + 1)]) rfl trivial (enters_of Tryz.func79 (by kernel_rfl) rfl)
    (encs := fun x => #[keyV x.1.1, x.1.2.v]) (Kp := KpG gb (fun b => b = gb)) (S := fun ys W => KsOf f N (ys.map (fun p : Ydd f now => p.1.1)) ∧ YsOk w2.heap.size (yS ys) W) (N := N) (w0 := w2)
    (fun l J W hW hJ hY h0 => by
      refine (HEs.out l (gb + 1) (gb + 1 + 1) (fun b => b = gb) w2 W J hJ (by rw [hs0]; exact hY) (by rw [hs0]; exact HB2.out) (fun b hb => by subst hb; exact ⟨by omega, hnp⟩) hW hs2 ht2 (by omega) (by omega) h0).mono ?_
      rintro e W' ⟨h1, ys, ⟨h2, h3⟩, h4⟩
      exact ⟨h1, ys, ⟨h2, h3.ok⟩, h4⟩)
    KpG.t (fun W l o o' hl h hc hw => KpG.b (by omega) W l o o' hl h hc hw (fun b hb => by subst hb; omega)) (Below.refl _ _) (fun _ => rfl)
    (fun pre W => Gat 87 61 9 gb gb w2 ((fun pre : List (Ydd f now) => pre.length) pre) ((fun pre : List (Ydd f now) => pre.flatMap fun p => stL p.1.2) pre) W) (Gat.own (Nat.le_refl _) (by omega))
    (fun s A B row h hg hr => ⟨h.1, ysOk_own _ A B row h.2 hg hr⟩)
    ⟨⟨_, hB2, World.ownsRow_nil _ _ _ _⟩, KpG.new (Below.refl _ _) (by omega) (fun b hb => by subst hb; omega)⟩
    (fun x a' W => ∃ By, Blk W By 61 (stL x.1.2).toArray ∧ a' = { tmps := #[.pointer sp, .int .i64 now, undef, undef, .slice none 0 0, boxV gb, undef, boxV By, .pointer sp, .int .i64 now, .func (.func 79) #[] #[boxV (gb + 1), boxV (gb + 1 + 1)], keyV x.1.1, x.1.2.v, undef, undef, undef, undef, undef], defers := [] })
    (fun x a' s W W' row h hg hr => by
      obtain ⟨By, hB, h9⟩ := h
      exact ⟨By, blk_ownF (β := Unit) () W W' row hB hg hr, h9⟩)
    ?assign ?body ?done
  case assign =>
    intro l pre x W K hI hK
    have hgW : gb < W.heap.size := by obtain ⟨⟨v, hB, _⟩, _⟩ := hI; exact (Array.getElem?_eq_some_iff.1 hB).1
    have hB : Below W.heap.size W (W.alloc (.cells (stC x.1.2.h x.1.2.A x.1.2.n x.1.2.c) 61)) := (Below.refl _ _).alloc (Nat.le_refl _) _
    gi_wp2
    exact hK _ _ (keepsF_below hB) (KpG.new hB (by omega) (fun b hb => by subst hb; omega)) ⟨hI.ex.imp fun v h => ⟨h.1.later hB, own_kept h.2 (Kept.of_new hB (fun _ => False)) (fun _ _ h => h)⟩, hI.kp.t (KpG.new hB (by omega) (fun b hb => by subst hb; omega))⟩ ⟨W.heap.size, Blk.new _ _ _, rfl⟩
  case body =>
    rintro l pre x a' W ⟨⟨v, hB, hrow⟩, hkp⟩ ⟨By, bX, rfl⟩ hlt
    obtain ⟨⟨⟨k1, k2, k3⟩, ⟨hage, hopts, htyp, hid, hadv, hseq, hsum, hlen⟩, sA, sn, sc, sB⟩, hp⟩ : ∃ p, x.1 = p := ⟨_, rfl⟩
    have HP := Lib.hid hp
    rw [hp] at bX ⊢
    clear hp
    dsimp only at hrow
    obtain ⟨vA, vc, rfl, -⟩ := (OwnW.of_own hrow).shape
    have hgW : gb < W.heap.size := (Array.getElem?_eq_some_iff.1 hB).1
    have hgy : gb ≠ By := fun e => by subst e; have h1 := hB.symm.trans bX; injection h1 with h1; injection h1 with h1 h2; exact absurd h2 (by decide)
    have bX' : Blk W By 61 #[.int .u16 hage, .int .u8 hopts, .int .u8 htyp, .int .u32 hid, .int .u32 hadv, .int .i32 hseq, .int .u16 hsum, .int .u16 hlen, .slice sA sn sc] := bX
    have k0 := hB.cell 0
    have j0 := bX'.cell 0; have j1 := bX'.cell 1; have j2 := bX'.cell 2; have j3 := bX'.cell 3; have j4 := bX'.cell 4; have j5 := bX'.cell 5; have j6 := bX'.cell 6; have j7 := bX'.cell 7; have j8 := bX'.cell 8
    simp only [List.getElem?_toArray, List.getElem?_cons_zero, List.getElem?_cons_succ] at k0 j0 j1 j2 j3 j4 j5 j6 j7 j8
    have HB := Lib.hid hB
    have HO := Lib.hid hrow
    have HKP := Lib.hid hkp
    have HBX := Lib.hid bX'
    have HBW : Hid (Below W.heap.size W (W.alloc (.cells #[.int .u16 hage, .int .u8 hopts, .int .u8 htyp, .int .u32 hid, .int .u32 hadv, .int .i32 hseq, .int .u16 hsum, .int .u16 hlen, .slice sA sn sc] 61))) := Lib.hid ((Below.refl _ _).alloc (Nat.le_refl _) _)
    have HR := Lib.hid (hrow.alloc (.cells #[.int .u16 hage, .int .u8 hopts, .int .u8 htyp, .int .u32 hid, .int .u32 hadv, .int .i32 hseq, .int .u16 hsum, .int .u16 hlen, .slice sA sn sc] 61))
    have HX : Hid (Reads (W.alloc (.cells #[.int .u16 hage, .int .u8 hopts, .int .u8 htyp, .int .u32 hid, .int .u32 hadv, .int .i32 hseq, .int .u16 hsum, .int .u16 hlen, .slice sA sn sc] 61)) (W.heap.size + 1) 9 (some ⟨W.heap.size, 0, none⟩) 1 (stL ⟨⟨hage, hopts, htyp, hid, hadv, hseq, hsum, hlen⟩, sA, sn, sc, sB⟩)) :=
      Lib.hid ⟨rfl, fun _ => ⟨_, rfl, Nat.lt_succ_self _, fun j u hu => by rw [add_none, Nat.zero_add, (Blk.new W 61 #[.int .u16 hage, .int .u8 hopts, .int .u8 htyp, .int .u32 hid, .int .u32 hadv, .int .i32 hseq, .int .u16 hsum, .int .u16 hlen, .slice sA sn sc]).cell]; simpa [stL] using hu⟩⟩
    clear hB hrow hkp bX bX'
    have hkl : pre.length ≤ N := by omega
    gi_wp2_with (first
      | (gi_at_builtin; refine wpListIn_app4 el_state rfl (.tmp 13) (.tmp 15) rfl HR.out rfl HX.out rfl (stL_one _) (by simp only [maxLen]; omega) (by omega) (by rw [World.size_alloc]; omega) ?_; intro v3 w3 ho3 hg3 h43; obtain ⟨A3, c3, rfl, -⟩ := (OwnW.of_own ho3).shape; have HBG := Lib.hid (((HB.out.later HBW.out).grown hg3 (fun e => (OwnW.of_own HO.out).ne_blk HB.out (by decide) e.symm))); have HSt := Lib.hid (And.intro ho3 (And.intro hg3 h43)); have k3 := HBG.out.cell 0; simp only [List.getElem?_toArray, List.getElem?_cons_zero] at k3; have f3 := HBG.out.frozen 0; clear ho3 hg3 h43))
    have hst := gat_step (B := w2.heap.size) HB.out HO.out (by decide) HBW.out HSt.out.2.1 HSt.out.2.2 HSt.out.1 (Nat.le_refl gb) HKP.out HR.out
    refine ⟨hst.1, hst.2.1, ?_⟩
    have h9 := hst.2.2
    exact h9.cast (by rw [List.length_append, List.length_singleton]) (by rw [List.flatMap_append, List.flatMap_singleton, HP.out])
  case done =>
    rintro D ys W hD ⟨hks, hys⟩ hI hK
    have HI := Lib.hid ((Gat.own (T := 87) (t := 61) (size := 9) (w1 := w2) (β := Unit) (k := fun _ => (fun pre : List (Ydd f now) => pre.length) ys) (xs := fun _ => (fun pre : List (Ydd f now) => pre.flatMap fun p => stL p.1.2) ys) (Nat.le_refl gb) (B := w2.heap.size) (by omega)).putObj (s := ()) (.deferred none) hI hD hK rfl)
    have HY := Lib.hid (ysOk_own.putObj (.deferred none) hys hD hK rfl)
    have HKs := Lib.hid hks
    obtain ⟨⟨v, hBv, hov⟩, hkp⟩ := hI
    obtain ⟨A9, c9, rfl, -⟩ := (OwnW.of_own hov).shape
    have k0 := hBv.cell 0
    simp only [List.getElem?_toArray, List.getElem?_cons_zero] at k0
    clear hov hkp hks hys
    go_wp2
    refine ⟨by simp, .inl ⟨_, _, rfl, run_takeDeferred hK, ?_⟩⟩
    refine ⟨_, results_tmp rfl _ _ _, ?_⟩
    have hB9 : Blk (W.putObj D (.deferred none)) gb 87 #[.slice A9 ((fun pre : List (Ydd f now) => pre.length) ys) c9] := (World.putObj_heap_other (by omega)).trans hBv
    obtain ⟨v9, hv9, ho9⟩ := HI.out.ex
    have hvv : v9 = .slice A9 ((fun pre : List (Ydd f now) => pre.length) ys) c9 := by
      have h1 : some (Obj.cells #[v9] 87) = some (Obj.cells #[.slice A9 ((fun pre : List (Ydd f now) => pre.length) ys) c9] 87) := hv9.symm.trans hB9
      injection h1 with h1
      injection h1 with h1
      injection h1 with h1
      injection h1
    subst hvv
    have HBE := Lib.hid (HB2.out.trans HI.out.kp.below)
    have hlen9 : ys.length = N := by have := HKs.out.len; rw [List.length_map] at this; exact this
    have hflat : (yS ys).flatMap stL = ys.flatMap fun p => stL p.1.2 := by unfold yS; rw [List.flatMap_map]
    refine ⟨_, rfl, _, HKs.out, yS ys, ?_, ?_, HY.out.mono (by omega), ?_, HBE.out⟩
    · unfold yS; rw [List.map_map, List.map_map]; exact List.map_congr_left fun p _ => p.h.1
    · unfold yS; rw [List.map_map, List.map_map]; exact List.map_congr_left fun p _ => p.h.2.1
    · rw [hflat]
      dsimp only at ho9
      rw [hlen9] at ho9 ⊢
      exact ho9

set_option maxRecDepth 100000 in
set_option maxHeartbeats 4000000 in
theorem stdue_any (sp : Option Addr) (now : Int) (f : Ky3 → Option OneE) (N : Nat) (w : World) (HE : EachAt (.pointer sp) now f N w) (hN : N ≤ 1048576) :
    Calls Tryz.prog 16 #[.pointer sp, .int .i64 now] w fun e w' => ∃ v, e = .returned v ∧ ∃ ks, KsOf f N ks ∧ w'.ownsRow w.heap.size 68 3 v (dueK f now ks).length ((dueK f now ks).flatMap keyC) ∧ Below w.heap.size w w' := by
  have HEs := Lib.hid HE
  clear HE
  refine (callsIn_wide (n := 6)).1 (callsIn_of_wp_marks Tryz.func16 rfl trivial ?_ rfl)
  simp only [Tryz.ntmps16, List.size_toArray, List.length_cons, List.length_nil, Nat.reduceAdd, Nat.reduceSub, Array.replicate_succ, Array.replicate_zero, List.push_toArray, List.append_toArray, List.nil_append, List.cons_append]
  refine wpIn_wide.2 ?_
  go_wp2_with (go_at_call 63; refine (steach_any _ _ _).mono ?_; rintro e w2 ⟨rfl, hw2⟩)
  rw [← hw2]
  have hb2 : Below w.heap.size w w2 := by
    subst hw2
    exact ((below_two w _ _).alloc (by simp; omega) _)
  have hB2 : Blk w2 w.heap.size 75 #[.slice none 0 0] := by
    subst hw2
    exact ((Blk.new w 75 #[.slice none 0 0]).alloc _).alloc _
  have hs2 : w2.cell? ⟨w.heap.size + 1, 0, none⟩ = some (.pointer sp) := by
    subst hw2
    have h := ((Blk.new (w.alloc (.cells #[.slice none 0 0] 75)) 25 #[.pointer sp]).alloc (.cells #[.int .i64 now] 3)).cell 0
    rw [World.size_alloc] at h
    exact h
  have ht2 : w2.cell? ⟨w.heap.size + 1 + 1, 0, none⟩ = some (.int .i64 now) := by
    subst hw2
    have h := (Blk.new ((w.alloc (.cells #[.slice none 0 0] 75)).alloc (.cells #[.pointer sp] 25)) 3 #[.int .i64 now]).cell 0
    rw [World.size_alloc, World.size_alloc] at h
    exact h
  have hsz2 : w2.heap.size = w.heap.size + 3 := by subst hw2; simp
  clear hw2
  have hnp : ∀ blk, ¬ Pts w2 w.heap.size blk := by
    rintro blk ⟨o, n, c, h⟩
    have := hB2.cell 0
    rw [this] at h
    cases h
  have HB2 := Lib.hid hb2
  generalize hs0 : w.heap.size = gb at *
  refine (wpIn_wide (n := 6)).1 ?_
  refine wpIn_rangeFunc_tells (α := Ydd f now) rfl (by decide) (gf := 79) (lb := #[boxV (gb + 1), boxV (gb + 1 + 1)]) rfl trivial (enters_of Tryz.func79 (by kernel_rfl) rfl)
    (encs := fun x => #[keyV x.1.1, x.1.2.v]) (Kp := KpG gb (fun b => b = gb)) (S := fun ys W => KsOf f N (ys.map (fun p : Ydd f now => p.1.1)) ∧ YsOk w2.heap.size (yS ys) W) (N := N) (w0 := w2)
    (fun l J W hW hJ hY h0 => by
      refine (HEs.out l (gb + 1) (gb + 1 + 1) (fun b => b = gb) w2 W J hJ (by rw [hs0]; exact hY) (by rw [hs0]; exact HB2.out) (fun b hb => by subst hb; exact ⟨by omega, hnp⟩) hW hs2 ht2 (by omega) (by omega) h0).mono ?_
      rintro e W' ⟨h1, ys, ⟨h2, h3⟩, h4⟩
      exact ⟨h1, ys, ⟨h2, h3.ok⟩, h4⟩)
    KpG.t (fun W l o o' hl h hc hw => KpG.b (by omega) W l o o' hl h hc hw (fun b hb => by subst hb; omega)) (Below.refl _ _) (fun _ => rfl)
    (fun pre W => Gat 75 68 3 gb gb w2 ((fun pre : List (Ydd f now) => (pre.filter (fun p : Ydd f now => oldA p.1.2.h.age)).length) pre) ((fun pre : List (Ydd f now) => (pre.filter (fun p : Ydd f now => oldA p.1.2.h.age)).flatMap fun p => keyC p.1.1) pre) W) (Gat.own (Nat.le_refl _) (by omega))
    (fun s A B row h hg hr => ⟨h.1, ysOk_own _ A B row h.2 hg hr⟩)
    ⟨⟨_, hB2, World.ownsRow_nil _ _ _ _⟩, KpG.new (Below.refl _ _) (by omega) (fun b hb => by subst hb; omega)⟩
    (fun x a' W => ∃ Bx By, Blk W Bx 68 (keyC x.1.1).toArray ∧ Blk W By 61 (stL x.1.2).toArray ∧ a' = { tmps := #[.pointer sp, .int .i64 now, undef, undef, .slice none 0 0, boxV gb, boxV Bx, boxV By, .pointer sp, .int .i64 now, .func (.func 79) #[] #[boxV (gb + 1), boxV (gb + 1 + 1)], keyV x.1.1, x.1.2.v, undef, undef, undef, undef, undef, undef, undef, undef, undef], defers := [] })
    (fun x a' s W W' row h hg hr => by
      obtain ⟨Bx, By, hA, hB, h9⟩ := h
      exact ⟨Bx, By, blk_ownF (β := Unit) () W W' row hA hg hr, blk_ownF (β := Unit) () W W' row hB hg hr, h9⟩)
    ?assign ?body ?done
  case assign =>
    intro l pre x W K hI hK
    have hgW : gb < W.heap.size := by obtain ⟨⟨v, hB, _⟩, _⟩ := hI; exact (Array.getElem?_eq_some_iff.1 hB).1
    have hB : Below W.heap.size W ((W.alloc (.cells #[.int .u8 x.1.1.1, .int .u32 x.1.1.2.1, .int .u32 x.1.1.2.2] 68)).alloc (.cells (stC x.1.2.h x.1.2.A x.1.2.n x.1.2.c) 61)) := below_two _ _ _
    gi_wp2
    exact hK _ _ (keepsF_below hB) (KpG.new hB (by omega) (fun b hb => by subst hb; omega)) ⟨hI.ex.imp fun v h => ⟨h.1.later hB, own_kept h.2 (Kept.of_new hB (fun _ => False)) (fun _ _ h => h)⟩, hI.kp.t (KpG.new hB (by omega) (fun b hb => by subst hb; omega))⟩ ⟨W.heap.size, W.heap.size + 1, (Blk.new W 68 _).alloc _, new_at _ _ _, rfl⟩
  case body =>
    rintro l pre x a' W ⟨⟨v, hB, hrow⟩, hkp⟩ ⟨Bx, By, bK, bX, rfl⟩ hlt
    obtain ⟨⟨⟨k1, k2, k3⟩, ⟨hage, hopts, htyp, hid, hadv, hseq, hsum, hlen⟩, sA, sn, sc, sB⟩, hp⟩ : ∃ p, x.1 = p := ⟨_, rfl⟩
    have HP := Lib.hid hp
    have hok := x.h.2.2
    rw [hp] at bX bK hok ⊢
    have HA := hok.age
    clear hok
    have bK' : Blk W Bx 68 #[.int .u8 k1, .int .u32 k2, .int .u32 k3] := bK
    have hd : 1 ≤ 6 - 1 - 1 := by omega
    clear hp
    dsimp only at hrow
    obtain ⟨vA, vc, rfl, -⟩ := (OwnW.of_own hrow).shape
    have hgW : gb < W.heap.size := (Array.getElem?_eq_some_iff.1 hB).1
    have hgy : gb ≠ By := fun e => by subst e; have h1 := hB.symm.trans bX; injection h1 with h1; injection h1 with h1 h2; exact absurd h2 (by decide)
    have bX' : Blk W By 61 #[.int .u16 hage, .int .u8 hopts, .int .u8 htyp, .int .u32 hid, .int .u32 hadv, .int .i32 hseq, .int .u16 hsum, .int .u16 hlen, .slice sA sn sc] := bX
    have k0 := hB.cell 0
    have j0 := bX'.cell 0; have j1 := bX'.cell 1; have j2 := bX'.cell 2; have j3 := bX'.cell 3; have j4 := bX'.cell 4; have j5 := bX'.cell 5; have j6 := bX'.cell 6; have j7 := bX'.cell 7; have j8 := bX'.cell 8; have m0 := bK'.cell 0; have m1 := bK'.cell 1; have m2 := bK'.cell 2
    simp only [List.getElem?_toArray, List.getElem?_cons_zero, List.getElem?_cons_succ] at k0 j0 j1 j2 j3 j4 j5 j6 j7 j8 m0 m1 m2
    have HB := Lib.hid hB
    have HO := Lib.hid hrow
    have HKP := Lib.hid hkp
    have HBX := Lib.hid bX'
    have HBK := Lib.hid bK'
    have HBW : Hid (Below W.heap.size W (W.alloc (.cells #[.int .u8 k1, .int .u32 k2, .int .u32 k3] 68))) := Lib.hid ((Below.refl _ _).alloc (Nat.le_refl _) _)
    have HR := Lib.hid (hrow.alloc (.cells #[.int .u8 k1, .int .u32 k2, .int .u32 k3] 68))
    have HX : Hid (Reads (W.alloc (.cells #[.int .u8 k1, .int .u32 k2, .int .u32 k3] 68)) (W.heap.size + 1) 3 (some ⟨W.heap.size, 0, none⟩) 1 (keyC (k1, k2, k3))) :=
      Lib.hid ⟨rfl, fun _ => ⟨_, rfl, Nat.lt_succ_self _, fun j u hu => by rw [add_none, Nat.zero_add, (Blk.new W 68 #[.int .u8 k1, .int .u32 k2, .int .u32 k3]).cell]; simpa [keyC] using hu⟩⟩
    clear hB hrow hkp bX bX' bK bK'
    have hkl : (pre.filter (fun p : Ydd f now => oldA p.1.2.h.age)).length ≤ N := by exact Nat.le_of_lt (Nat.lt_of_le_of_lt (List.length_filter_le _ _) hlt)
    cases ho : (yearsOf hage == 3600)
    · gi_wp2_with (refine ⟨trivial, ?_⟩; gi_at_call 64; refine (CallsIn.inRound l (callsIn_wide.2 (old_any hage _ HA.1 HA.2))).mono ?_; rintro e w' ⟨rfl, rfl⟩)
      have hf : (pre ++ [x]).filter (fun p : Ydd f now => oldA p.1.2.h.age) = pre.filter (fun p : Ydd f now => oldA p.1.2.h.age) := by rw [List.filter_append, List.filter_cons_of_neg (by show ¬ oldA x.1.2.h.age = true; rw [HP.out]; unfold oldA; simp only; rw [ho]; decide)]; simp
      refine ⟨KeepsFrom.refl _ _, KpG.new (Below.refl _ _) (by omega) (fun b hb => by subst hb; omega), ?_⟩
      exact Gat.cast ⟨⟨_, HB.out, HO.out⟩, HKP.out⟩ (congrArg List.length hf) (congrArg (fun l : List (Ydd f now) => l.flatMap fun p => keyC p.1.1) hf)
    · gi_wp2_with (first
        | (refine ⟨trivial, ?_⟩; gi_at_call 64; refine (CallsIn.inRound l (callsIn_wide.2 (old_any hage _ HA.1 HA.2))).mono ?_; rintro e w' ⟨rfl, rfl⟩)
        | (gi_at_builtin; refine wpListIn_app4 el_keyC rfl (.tmp 17) (.tmp 19) rfl HR.out rfl HX.out rfl (keyC_one _) (by simp only [maxLen]; omega) (by omega) (by rw [World.size_alloc]; omega) ?_; intro v3 w3 ho3 hg3 h43; obtain ⟨A3, c3, rfl, -⟩ := (OwnW.of_own ho3).shape; have HBG := Lib.hid (((HB.out.later HBW.out).grown hg3 (fun e => (OwnW.of_own HO.out).ne_blk HB.out (by decide) e.symm))); have HSt := Lib.hid (And.intro ho3 (And.intro hg3 h43)); have k3 := HBG.out.cell 0; simp only [List.getElem?_toArray, List.getElem?_cons_zero] at k3; have f3 := HBG.out.frozen 0; clear ho3 hg3 h43))
      have hf : (pre ++ [x]).filter (fun p : Ydd f now => oldA p.1.2.h.age) = pre.filter (fun p : Ydd f now => oldA p.1.2.h.age) ++ [x] := by rw [List.filter_append, List.filter_cons_of_pos (by show oldA x.1.2.h.age = true; rw [HP.out]; exact ho)]; simp
      have hst := gat_step (B := w2.heap.size) HB.out HO.out (by decide) HBW.out HSt.out.2.1 HSt.out.2.2 HSt.out.1 (Nat.le_refl gb) HKP.out HR.out
      refine ⟨hst.1, hst.2.1, ?_⟩
      have h9 := hst.2.2
      exact h9.cast ((congrArg List.length hf).trans (by rw [List.length_append, List.length_singleton])) ((congrArg (fun l : List (Ydd f now) => l.flatMap fun p => keyC p.1.1) hf).trans (List.flatMap_append.trans (by rw [List.flatMap_singleton, HP.out])))
  case done =>
    rintro D ys W hD ⟨hks, hys⟩ hI hK
    have HI := Lib.hid ((Gat.own (T := 75) (t := 68) (size := 3) (w1 := w2) (β := Unit) (k := fun _ => (fun pre : List (Ydd f now) => (pre.filter (fun p : Ydd f now => oldA p.1.2.h.age)).length) ys) (xs := fun _ => (fun pre : List (Ydd f now) => (pre.filter (fun p : Ydd f now => oldA p.1.2.h.age)).flatMap fun p => keyC p.1.1) ys) (Nat.le_refl gb) (B := w2.heap.size) (by omega)).putObj (s := ()) (.deferred none) hI hD hK rfl)
    have HY := Lib.hid (ysOk_own.putObj (.deferred none) hys hD hK rfl)
    have HKs := Lib.hid hks
    obtain ⟨⟨v, hBv, hov⟩, hkp⟩ := hI
    obtain ⟨A9, c9, rfl, -⟩ := (OwnW.of_own hov).shape
    have k0 := hBv.cell 0
    simp only [List.getElem?_toArray, List.getElem?_cons_zero] at k0
    clear hov hkp hks hys
    go_wp2
    refine ⟨by simp, .inl ⟨_, _, rfl, run_takeDeferred hK, ?_⟩⟩
    refine ⟨_, results_tmp rfl _ _ _, ?_⟩
    have hB9 : Blk (W.putObj D (.deferred none)) gb 75 #[.slice A9 ((fun pre : List (Ydd f now) => (pre.filter (fun p : Ydd f now => oldA p.1.2.h.age)).length) ys) c9] := (World.putObj_heap_other (by omega)).trans hBv
    obtain ⟨v9, hv9, ho9⟩ := HI.out.ex
    have hvv : v9 = .slice A9 ((fun pre : List (Ydd f now) => (pre.filter (fun p : Ydd f now => oldA p.1.2.h.age)).length) ys) c9 := by
      have h1 : some (Obj.cells #[v9] 75) = some (Obj.cells #[.slice A9 ((fun pre : List (Ydd f now) => (pre.filter (fun p : Ydd f now => oldA p.1.2.h.age)).length) ys) c9] 75) := hv9.symm.trans hB9
      injection h1 with h1
      injection h1 with h1
      injection h1 with h1
      injection h1
    subst hvv
    have HBE := Lib.hid (HB2.out.trans HI.out.kp.below)
    have hd9 : dueK f now (ys.map (fun p : Ydd f now => p.1.1)) = (ys.filter (fun p : Ydd f now => oldA p.1.2.h.age)).map (fun p : Ydd f now => p.1.1) := by
      unfold dueK
      rw [List.filter_map]
      congr 1
      refine List.filter_congr fun p _ => ?_
      show oldA (hAt f now p.1.1).age = oldA p.1.2.h.age
      rw [p.h.1]
    refine ⟨_, rfl, _, HKs.out, ?_, HBE.out⟩
    rw [hd9, List.length_map, List.flatMap_map]
    exact ho9
end Go.Proofs.YtpncbggjngamgaaGreatDoor
namespace Go.Proofs.YtpncbggjngamgaaGreatDoor
set_option linter.unusedVariables false
open Go.RowKit

def noDefer (ops : Array Oper) : Bool := ops.toList.all fun o => match o.op with | .defer _ => false | _ => true
theorem noDefer_spec {ops : Array Oper} (h : noDefer ops = true) {i : Nat} {o : Oper} (ho : ops[i]? = some o) : ∀ c, o.op ≠ .defer c := by
  intro c hc
  unfold noDefer at h
  have hm : o ∈ ops.toList := by
    rw [Array.mem_toList_iff]
    exact Array.mem_of_getElem? ho
  have := List.all_eq_true.1 h o hm
  rw [hc] at this
  cases this
theorem rowsIn_of {P : Program} {row : String} {args : Array Value} {w : World} {R : Value → World → Prop} {l n : Nat} (h : Rows P row args w R) : RowsIn (Fence.wide.inRound l) n P row args w R :=
  fun c cs _ => by
    obtain ⟨v, w', r, s⟩ := h c cs
    exact ⟨v, w', r, stepsIn_wide.2 s⟩
theorem opIn_of_op {P : Program} {l n : Nat} {o : Oper} {a : Act} {w : World} {K : Act → World → Prop} {Q : Exit → Act → World → Prop} (hnd : ∀ c, o.op ≠ .defer c) (h : o.wp P a w K Q) : o.wpIn (Fence.wide.inRound l) n P a w K Q := by
  refine ⟨fun f _ => trivial, ?_⟩
  rw [Fence.inRound_round, Oper.semAt_some _ _ _ hnd]
  unfold Oper.wp at h
  generalize (execOp a.eval o).run P w = r at *
  cases r with
  | ok x w' =>
    cases x <;> simp only [Oper.upon, Oper.uponIn] at h ⊢ <;>
      first
        | exact h
        | exact ⟨fun h => (by cases h), CallsIn.inRound l (callsIn_wide.2 h)⟩
        | exact ⟨fun h => (by cases h), rowsIn_of h⟩
  | halt x w' => cases x <;> simp only [Oper.upon, Oper.uponIn] at h ⊢ <;> exact h
theorem wpOpIn_of {P : Program} {ops : Array Oper} {Q : Exit → Act → World → Prop} {l n i : Nat} {K : Act → World → Prop} {a : Act} {w : World} (hnd : noDefer ops = true) (hQo : ∀ a w, ¬ Q .outgrown a w) (h : wpOp P ops Q i K a w) : wpOpIn (Fence.wide.inRound l) n P ops Q i K a w := by
  unfold wpOp at h
  unfold wpOpIn
  cases hi : ops[i]? with
  | none => rw [hi] at h; exact h
  | some o =>
    rw [hi] at h
    simp only at h ⊢
    split
    · rename_i hw; rw [if_pos hw] at h; exact opIn_of_op (noDefer_spec hnd hi) (h.resolve_right fun ⟨_, a, w, hh⟩ => hQo a w hh)
    · rename_i hw; rw [if_neg hw] at h; exact ⟨fun _ _ => trivial, h⟩
theorem wpAnyIn_of {P : Program} {md : Region.Mode} {ops : Array Oper} {Q : Exit → Act → World → Prop} {l n : Nat} (hnd : noDefer ops = true) (hQo : ∀ a w, ¬ Q .outgrown a w) : ∀ (fuel : Nat) (listed : Array Bool) (a : Act) (w : World),
    wpAny P md ops Q fuel listed a w → wpAnyIn (Fence.wide.inRound l) n P md ops Q fuel listed a w := by
  intro fuel
  induction fuel with
  | zero => intro listed a w h; exact h
  | succ fuel ih => intro listed a w h; exact ⟨h.1, fun i hi => wpOpIn_mono (fun a w => ih _ a w) (wpOpIn_of hnd hQo (h.2 i hi))⟩
section
variable {P : Program} {id l n : Nat} {ops : Array Oper} {Q : Exit → Act → World → Prop} {a : Act} {w : World}
/-- In a round: a region that draws its order, walked in an order of ours, beside S. -/
theorem wpIn_round_s (S : World → Prop) (π : List (Nat × Bool))
    (hm : (P.follows .mixedOrders && Region.noSelect ops && noDefer ops && (π.length == ops.size) && okOrder ops (Array.replicate ops.size false) π) = true)
    (hQ : ∀ c d v a w, Q (.panic c) (Act.put a d v) w → Q (.panic c) a w) (hQo : ∀ a w, ¬ Q .outgrown a w)
    (h : wpS P ops Q S (π.map fun x => (nthOp ops.toList x.1, x.2)) a w.drew) : (Code.region id ops true).wpIn (Fence.wide.inRound l) n P Q a w := by
  simp only [Bool.and_eq_true, beq_iff_eq] at hm
  obtain ⟨⟨⟨⟨h1, h2⟩, h0⟩, h3⟩, h4⟩ := hm
  refine wpIn_region_any h1 (wpAnyIn_of h0 hQo _ _ _ _ (wpAny_of_held (S := S) _ _ _ _ ?_))
  rw [← h3]
  exact wpAny_s h2 hQ π _ a _ (by rw [h3]; exact h4) h
/-- In a round: a region that draws its order, walked step by step, beside S. -/
theorem wpIn_round_r (S : World → Prop) (π : List RStep)
    (hm : (P.follows .mixedOrders && Region.noSelect ops && noDefer ops && ((π.map RStep.count).sum == ops.size) && okSteps ops (Array.replicate ops.size false) π) = true)
    (hQ : ∀ c d v a w, Q (.panic c) (Act.put a d v) w → Q (.panic c) a w) (hQo : ∀ a w, ¬ Q .outgrown a w)
    (h : wpR P ops Q S (π.map (RStep.node ops.toList)) a w.drew) : (Code.region id ops true).wpIn (Fence.wide.inRound l) n P Q a w := by
  simp only [Bool.and_eq_true, beq_iff_eq] at hm
  obtain ⟨⟨⟨⟨h1, h2⟩, h0⟩, h3⟩, h4⟩ := hm
  refine wpIn_region_any h1 (wpAnyIn_of h0 hQo _ _ _ _ (wpAny_of_held (S := S) _ _ _ _ ?_))
  rw [← h3]
  exact wpAny_r h2 hQ π _ a _ (by rw [h3]; exact h4) h
end
end Go.Proofs.YtpncbggjngamgaaGreatDoor
