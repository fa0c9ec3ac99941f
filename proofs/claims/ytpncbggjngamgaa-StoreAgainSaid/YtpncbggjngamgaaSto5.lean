/-
  The store's iterator over its states at a time, in a fence. Printed by gen_sto5.py.
-/
import Derived.Test.YtpncbggjngamgaaSto4
import Derived.Test.YtpncbggjngamgaaSk4
import Derived.Test.YtpncbggjngamgaaRinS
namespace Go.Proofs.Ytpncbggjngamgaa
set_option linter.unusedVariables false
open Go.RowKit Go.Shelf
attribute [local go_sem] Oper.semAt_some

/-- What is handed on: a key of the store, and its state as old as the time says. -/
def Ydd (f : Ky3 → Option OneE) (now : Int) : Type := { p : Ky3 × SE // ∃ x, f p.1 = some x ∧ p.2.h = x.headAt now ∧ p.2.B = x.s.B ∧ p.2.n = x.s.n ∧ p.2.h.ok }
/-- The keys of a store, in order. -/
structure KsOf (f : Ky3 → Option OneE) (n : Nat) (ks : List Ky3) : Prop where
  mem : ∀ k, k ∈ ks ↔ (f k).isSome = true
  asc : ∀ (i j : Nat) (a b : Ky3), i < j → ks[i]? = some a → ks[j]? = some b → ltK a b = true
  len : ks.length = n
theorem ksOf {w : World} {bm n : Nat} {f : Ky3 → Option OneE} {es : Array MapEntry} {clock : Nat} {L : List (Ky3 × Value)} (h : MapFs keyV w bm (fun k => (f k).map OneE.v) n es clock L) {ks : List Ky3} (hs : Sorted_ (L.map fun x => x.1) ks) : KsOf f n ks := by
  have hnd : ks.Nodup := (hs.perm.nodup_iff).2 h.keys
  refine ⟨fun k => ?_, fun i j a b hij ha hb => ?_, by rw [hs.perm.length_eq, List.length_map, h.len]⟩
  · rw [hs.perm.mem_iff, List.mem_map]
    constructor
    · rintro ⟨⟨k', v⟩, hm, rfl⟩
      have h1 := (atL_some h.keys).2 hm
      rw [h.at_] at h1
      simp only at h1
      cases hf : f k' with
      | none => rw [hf] at h1; cases h1
      | some x => rfl
    · intro hk
      cases hf : f k with
      | none => rw [hf] at hk; cases hk
      | some x =>
        have h1 : atL L k = some x.v := by rw [h.at_]; simp [hf]
        exact ⟨(k, x.v), (atL_some h.keys).1 h1, rfl⟩
  · have h1 := hs.asc i j a b hij ha hb
    cases h2 : ltK a b with
    | true => rfl
    | false =>
      have e := ltK_eq h2 h1
      subst e
      have hi := (List.getElem?_eq_some_iff.1 ha).1
      have := (List.getElem?_inj hi hnd).1 (ha.trans hb.symm)
      omega
/-- The box points to a block. -/
def Pts (W : World) (gb blk : Nat) : Prop := ∃ o n c, W.cell? ⟨gb, 0, none⟩ = some (.slice (some ⟨blk, o, none⟩) n c)
/-- What a round keeps: all below n₀, and every block of cells but the boxes G and those that they point to. -/
structure KpG (n₀ : Nat) (G : Nat → Prop) (W W' : World) : Prop where
  below : Below n₀ W W'
  keep : ∀ k cs t fz, W.heap[k]? = some (.cells cs t fz) → ¬ G k → (∀ gb, G gb → ¬ Pts W gb k) → W'.heap[k]? = some (.cells cs t fz)
  pts : ∀ gb blk, G gb → Pts W' gb blk → Pts W gb blk ∨ W.heap.size ≤ blk
  lim : (∀ gb blk, G gb → Pts W gb blk → blk < W.heap.size) → ∀ gb blk, G gb → Pts W' gb blk → blk < W'.heap.size
theorem KpG.t {n₀ : Nat} {G : Nat → Prop} {A B C : World} (h : KpG n₀ G A B) (k : KpG n₀ G B C) : KpG n₀ G A C :=
  ⟨h.below.trans k.below, fun i cs t fz hi hG hP => k.keep i cs t fz (h.keep i cs t fz hi hG hP) hG fun gb hg hp => by
      have hl := (Array.getElem?_eq_some_iff.1 hi).1
      rcases h.pts gb i hg hp with h1 | h1
      · exact hP gb hg h1
      · omega,
    fun gb blk hg hp => by
      rcases k.pts gb blk hg hp with h1 | h1
      · exact h.pts gb blk hg h1
      · exact .inr (Nat.le_trans h.below.size h1),
    fun hl => k.lim (h.lim hl)⟩
theorem KpG.new {n₀ : Nat} {G : Nat → Prop} {W W' : World} (h : Below W.heap.size W W') (hn : n₀ ≤ W.heap.size) (hG : ∀ gb, G gb → gb < W.heap.size) : KpG n₀ G W W' :=
  have hp : ∀ gb blk, G gb → Pts W' gb blk → Pts W gb blk := fun gb blk hg ⟨o, n, c, hp⟩ => ⟨o, n, c, by rw [← h.cell (p := ⟨gb, 0, none⟩) (hG gb hg)]; exact hp⟩
  ⟨h.mono hn, fun i cs t fz hi _ _ => (h.block i (Array.getElem?_eq_some_iff.1 hi).1).trans hi, fun gb blk hg h2 => .inl (hp gb blk hg h2), fun hl gb blk hg h2 => Nat.lt_of_lt_of_le (hl gb blk hg (hp gb blk hg h2)) h.size⟩
theorem KpG.b {n₀ : Nat} {G : Nat → Prop} {w : World} (hn : n₀ ≤ w.heap.size) (W : World) (l : Nat) (o o' : Obj) (hl : w.heap.size ≤ l) (h : W.heap[l]? = some o) (hc : o.isCells = false) (hw : o.isWalk = false) (hG : ∀ gb, G gb → gb < w.heap.size) : KpG n₀ G W (W.putObj l o') := by
  have hne : ∀ k, k ≠ l → (W.putObj l o').heap[k]? = W.heap[k]? := fun k hk => by
    show (W.heap.setIfInBounds l o')[k]? = _
    rw [Array.getElem?_setIfInBounds_ne (Ne.symm hk)]
  have hpt : ∀ gb blk, G gb → Pts (W.putObj l o') gb blk → Pts W gb blk := fun gb blk hg ⟨o2, n, c, hp⟩ => ⟨o2, n, c, by
    unfold World.cell? at hp ⊢
    rw [hne gb (by have := hG gb hg; omega)] at hp
    exact hp⟩
  refine ⟨belowK_b hn W l o o' hl h hc hw, fun i cs t fz hi _ _ => ?_, fun gb blk hg hp => .inl (hpt gb blk hg hp), fun hl2 gb blk hg hp => ?_⟩
  · rw [hne i (fun e => by subst e; rw [h] at hi; injection hi with hi; subst hi; cases hc)]; exact hi
  · have := hl2 gb blk hg (hpt gb blk hg hp)
    simpa [World.putObj] using this
theorem KpG.cellK {n₀ : Nat} {G : Nat → Prop} {W V : World} (h : KpG n₀ G W V) {b i : Nat} {v : Value} (hc : W.cell? ⟨b, i, none⟩ = some v) (hg : ¬ G b) (hp : ∀ gb, G gb → ¬ Pts W gb b) : V.cell? ⟨b, i, none⟩ = some v := by
  unfold World.cell? at hc
  cases hk : W.heap[b]? with
  | none => simp [hk] at hc
  | some o =>
    simp only [hk] at hc
    cases o with
    | cells cs t fz =>
      have := h.keep b cs t fz hk hg hp
      unfold World.cell?
      simp only [this]
      exact hc
    | _ => simp at hc
/-- A state whose body no box points to. -/
def OkG (B : Nat) (G : Nat → Prop) (s : SE) (W : World) : Prop := s.ok B W ∧ ∀ p, s.A = some p → ∀ gb, G gb → ¬ Pts W gb p.block
/-- What was handed on so far: each body a row of its own. -/
structure YsIn (B : Nat) (G : Nat → Prop) (ss : List SE) (W : World) : Prop where
  own : ∀ s ∈ ss, OkG B G s W
  sep : ss.Pairwise fun a b => ∀ p q, a.A = some p → b.A = some q → p.block ≠ q.block
theorem own_at {w : World} {base size n m c : Nat} {e : TypeId} {A : Option Addr} {xs : List Value} (h : w.ownsRow base e size (.slice A m c) n xs) {p : Addr} (hp : A = some p) : base ≤ p.block ∧ p.block < w.heap.size ∧ ∃ cs t fz, w.heap[p.block]? = some (.cells cs t fz) := by
  rcases h.2 with ⟨e1, _⟩ | ⟨g', cap, cur, e1, hb, hk, _⟩
  · injection e1 with e1; rw [hp] at e1; cases e1
  · injection e1 with e1; rw [hp] at e1; injection e1 with e1; subst e1
    exact ⟨hb, (Array.getElem?_eq_some_iff.1 hk).1, _, _, _, hk⟩
theorem OkG.kp {n₀ B : Nat} {G : Nat → Prop} {s : SE} {W V : World} (h : OkG B G s W) (k : KpG n₀ G W V) (hB : ∀ gb, G gb → gb < B) : OkG B G s V := by
  obtain ⟨⟨h1, h2, h3, h4⟩, h5⟩ := h
  refine ⟨⟨h1, ⟨h2.1, ?_⟩, h3, h4⟩, fun p hp gb hg hq => ?_⟩
  · rcases h2.2 with h | ⟨g', cap, cur, e1, hb, hk, r⟩
    · exact .inl h
    · refine .inr ⟨g', cap, cur, e1, hb, ?_, r⟩
      injection e1 with e1
      exact k.keep g' _ _ _ hk (fun hg => by have := hB g' hg; omega) (fun gb hg hq => h5 _ e1 gb hg hq)
  · rcases k.pts gb _ hg hq with h6 | h6
    · exact h5 p hp gb hg h6
    · have := (own_at h2 hp).2.1; omega
theorem YsIn.kp {n₀ B : Nat} {G : Nat → Prop} {ss : List SE} {W V : World} (h : YsIn B G ss W) (k : KpG n₀ G W V) (hB : ∀ gb, G gb → gb < B) : YsIn B G ss V :=
  ⟨fun s hs => (h.own s hs).kp k hB, h.sep⟩
theorem YsIn.snoc {B : Nat} {G : Nat → Prop} {ss : List SE} {W V : World} {s : SE} (h : YsIn B G ss V) (hl : ∀ s ∈ ss, ∀ p, s.A = some p → p.block < W.heap.size) (hs : s.ok W.heap.size V) (hB : B ≤ W.heap.size)
    (hG : ∀ gb blk, G gb → Pts V gb blk → blk < W.heap.size) : YsIn B G (ss ++ [s]) V := by
  refine ⟨fun a ha => ?_, ?_⟩
  · rcases List.mem_append.1 ha with ha | ha
    · exact h.own a ha
    · rw [List.mem_singleton] at ha
      subst ha
      refine ⟨hs.mono hB, fun p hp gb hg hq => ?_⟩
      have h1 := (own_at hs.body hp).1
      have h2 := hG gb _ hg hq
      omega
  · rw [List.pairwise_append]
    refine ⟨h.sep, List.pairwise_singleton _ _, fun a ha b hb p q hp hq e => ?_⟩
    rw [List.mem_singleton] at hb
    subst hb
    have h1 := (own_at hs.body hq).1
    have h2 := hl a ha p hp
    omega
def yS {f : Ky3 → Option OneE} {now : Int} (ys : List (Ydd f now)) : List SE := ys.map fun p => p.1.2
set_option maxRecDepth 100000 in
set_option maxHeartbeats 4000000 in
theorem each_in (l Bs Bn g bm : Nat) (most : Int) (f : Ky3 → Option OneE) (N : Nat) (now : Int) (wS w0 W : World) (G : Nat → Prop) (J : List (Ydd f now) → World → Prop) (hJ : AbidesFrom W.heap.size J)
    (hY : ∀ pre (x : Ydd f now) W1, J pre W1 → pre.length < N → YieldAt Fence.wide 4 Try.prog l #[keyV x.1.1, x.1.2.v] W1 fun e W' =>
      e = .returned (.bool true) ∧ J (pre ++ [x]) W' ∧ KpG wS.heap.size G W1 W')
    (q : StF wS g bm most f N) (hS : Below wS.heap.size wS w0) (hG : ∀ gb, G gb → gb < w0.heap.size ∧ ∀ blk, ¬ Pts w0 gb blk) (hb : Below w0.heap.size w0 W)
    (hs : w0.cell? ⟨Bs, 0, none⟩ = some (.pointer (some ⟨g, 0, none⟩))) (ht : w0.cell? ⟨Bn, 0, none⟩ = some (.int .i64 now)) (hGs : ¬ G Bs) (hGt : ¬ G Bn)
    (hnow : 0 ≤ now ∧ now ≤ 9223372036854775807) (hN : N ≤ 1048576) (h0 : J [] W) :
    CallsIn Fence.wide 5 Try.prog 63 #[.func (.yield l) #[] #[], .pointer (some ⟨Bs, 0, none⟩), .pointer (some ⟨Bn, 0, none⟩)] W fun e W' => (∃ v, e = .returned v) ∧
      ∃ ys, (KsOf f N (ys.map (fun p : Ydd f now => p.1.1)) ∧ YsIn w0.heap.size G (yS ys) W') ∧ J ys W' := by
  have hSW : Below wS.heap.size wS W := hS.trans (hb.mono hS.size)
  have HQ := Lib.hid q
  have HJ0 := Lib.hid h0
  have HB := Lib.hid hSW
  have HG := Lib.hid (show ∀ gb, G gb → gb < W.heap.size ∧ ∀ blk, ¬ Pts W gb blk from fun gb hg => ⟨Nat.lt_of_lt_of_le (hG gb hg).1 hb.size, fun blk ⟨o, n, c, hp⟩ => (hG gb hg).2 blk ⟨o, n, c, by rw [← hb.cell (p := ⟨gb, 0, none⟩) (hG gb hg).1]; exact hp⟩⟩)
  have hc1 : ∀ V : World, KpG wS.heap.size G W V → V.cell? ⟨Bs, 0, none⟩ = some (.pointer (some ⟨g, 0, none⟩)) := fun V hV => hV.cellK ((hb.cell (p := ⟨Bs, 0, none⟩) (cell_lt hs)).trans hs) hGs fun gb hg => (HG.out gb hg).2 Bs
  have hc2 : ∀ V : World, KpG wS.heap.size G W V → V.cell? ⟨Bn, 0, none⟩ = some (.int .i64 now) := fun V hV => hV.cellK ((hb.cell (p := ⟨Bn, 0, none⟩) (cell_lt ht)).trans ht) hGt fun gb hg => (HG.out gb hg).2 Bn
  have HC1 := Lib.hid hc1
  have HC2 := Lib.hid hc2
  have HGB := Lib.hid (show ∀ gb, G gb → gb < w0.heap.size from fun gb hg => (hG gb hg).1)
  have HSz := Lib.hid hb.size
  have hrf : KpG wS.heap.size G W W := KpG.new (Below.refl _ _) HB.out.size fun gb hg => (HG.out gb hg).1
  have dn : decide (now < 0) = false := decide_eq_false (by omega)
  obtain ⟨es, clock, L, hm⟩ := (q.later hSW).map
  have HM := Lib.hid hm
  have j1 := HC1.out W hrf
  have j2 := HC2.out W hrf
  have j3 : W.cell? ⟨g, 0, none⟩ = some (.map (some bm)) := (q.later hSW).blk.cell 0
  have HN := Lib.hid (stnone_any W g bm j3)
  clear q hb h0 hs ht hm hc1 hc2 hS hG hSW hrf hGs hGt
  refine callsIn_of_wp Try.func63 rfl trivial ?_ rfl
  simp only [Try.ntmps63, List.size_toArray, List.length_cons, List.length_nil, Nat.reduceAdd, Nat.reduceSub, Array.replicate_succ, Array.replicate_zero, List.push_toArray, List.append_toArray, List.nil_append, List.cons_append]
  refine wpIn_wide.2 ?_
  go_wp2_with (first
    | (go_at_call 33; refine HN.out.mono ?_; rintro e w' ⟨rfl, rfl⟩)
    | (go_at_call 65; refine (keysF_any bm W).mono ?_; rintro e w1 ⟨rfl, rfl⟩))
  clear dn HN j1 j2 j3
  have hb1 : Below W.heap.size W (W.alloc (.cells #[.map (some bm)] 89)) := (Below.refl _ _).alloc (Nat.le_refl _) _
  have hbm : bm < W.heap.size := (Array.getElem?_eq_some_iff.1 HM.out.heap).1
  refine (sortedFunc_any W.heap.size bm N (fun k => (f k).map OneE.v) es clock L (W.alloc (.cells #[.map (some bm)] 89)) ((Blk.new W 89 #[.map (some bm)]).cell 0) (HM.out.laterB hb1 hbm) hN).mono ?_
  rintro e w2 ⟨v, rfl, hA⟩
  obtain ⟨ks, hsr, hO⟩ := hA.ex
  have hbase := hA.base
  obtain ⟨A, c, rfl, hcn, hcm, hR, hAd⟩ := hO.shape
  have HKs := Lib.hid (ksOf HM.out hsr)
  have hb2 := below_then hb1 hA.bel
  -- the row of keys: a block that no box points to
  have HR : Hid (∀ V : World, KpG wS.heap.size G w2 V → Reads V V.heap.size 3 A N (ks.flatMap keyC)) := Lib.hid fun V hV => by
    refine ⟨hR.1, fun hpos => ?_⟩
    obtain ⟨ad, hA1, hlt, hcell⟩ := hR.2 hpos
    have hown := (hAd ad hA1).1
    have hge := hbase ad.block hown
    rw [World.size_alloc] at hge
    refine ⟨ad, hA1, Nat.lt_of_lt_of_le hlt hV.below.size, fun j u hu => ?_⟩
    have h1 := hcell j u hu
    have hadd : (ad.add j).block = ad.block := by rw [(hAd ad hA1).2, add_none]
    have hblk : V.heap[ad.block]? = w2.heap[ad.block]? := by
      unfold World.cell? at h1
      rw [hadd] at h1
      cases hk : w2.heap[ad.block]? with
      | none => rw [hk] at h1; cases h1
      | some o =>
        rw [hk] at h1
        cases o with
        | cells cs t fz =>
          refine hV.keep ad.block cs t fz hk (fun hg => ?_) (fun gb hg ⟨o, n, c, hp⟩ => ?_)
          · have := (HG.out ad.block hg).1; omega
          · exact (HG.out gb hg).2 ad.block ⟨o, n, c, by rw [← hb2.cell (p := ⟨gb, 0, none⟩) (HG.out gb hg).1]; exact hp⟩
        | _ => cases h1
    exact (World.cell?_of_block (show V.heap[(ad.add j).block]? = w2.heap[(ad.add j).block]? by rw [hadd]; exact hblk)).trans h1
  have HK2 : Hid (KpG wS.heap.size G W w2) := Lib.hid (KpG.new hb2 HB.out.size fun gb hg => (HG.out gb hg).1)
  have HJ2 : Hid (J [] w2) := Lib.hid (hJ [] W w2 none HJ0.out ⟨hb2.os, hb2.tape, hb2.output, hb2.size, fun k hk _ => hb2.block k hk⟩ (fun r e => by cases e))
  have HB2 := Lib.hid hb2
  clear hsr hO hR hb1 hA hAd hbase hb2
  go_wp2_with fail
  refine (wpIn_wide (n := 5)).1 ?_
  gi_loopw [19] (fun i wr => ∃ (j : Nat) (pre : List (Ydd f now)), i = .int .i64 j ∧ j ≤ N ∧ pre.map (fun p : Ydd f now => p.1.1) = ks.take j ∧ J pre wr ∧ KpG wS.heap.size G w2 wr ∧ YsIn w0.heap.size G (yS pre) wr) (fun i _ => N - (intOf i).toNat)
  case atStart => exact ⟨0, [], rfl, by omega, rfl, HJ2.out, KpG.new (Below.refl _ _) (Nat.le_trans HB.out.size HB2.out.size) (fun gb hg => Nat.lt_of_lt_of_le (HG.out gb hg).1 HB2.out.size), ⟨fun s h => by simp [yS] at h, List.Pairwise.nil⟩⟩
  case round =>
    obtain ⟨j, pre, rfl, hj, hpre, hJs, hk, hys⟩ := hrel
    have HYs := Lib.hid hys
    clear hys
    have HKr := Lib.hid hk
    have HPre := Lib.hid hpre
    clear hk hpre
    by_cases hlt : j < N
    · obtain ⟨ad, k, rfl, had, hk, c0', cj⟩ := rowG_at keyC_len (HR.out wr HKr.out) HKs.out.len hlt
      obtain ⟨k1, k2, k3⟩ := k
      have HKj := Lib.hid hk
      have c0 := c0' _ rfl
      have c1 := cj 1 _ (by decide) rfl
      have c2 := cj 2 _ (by decide) rfl
      clear c0' cj
      have hsome : (f (k1, k2, k3)).isSome = true := (HKs.out.mem _).1 (List.mem_of_getElem? hk)
      obtain ⟨x, hfx⟩ := Option.isSome_iff_exists.1 hsome
      have HX := Lib.hid hfx
      have HLK := Lib.hid (show lookF (fun k => (f k).map OneE.v) (k1, k2, k3) zOne.v false = x.v by unfold lookF; simp [hfx])
      clear hk hsome hfx
      have hb3 : Below wr.heap.size wr (wr.alloc (.cells #[.int .u8 k1, .int .u32 k2, .int .u32 k3] 45)) := (Below.refl _ _).alloc (Nat.le_refl _) _
      have hb4 : Below wr.heap.size wr (wr.alloc (.cells #[.int .u8 k1, .int .u32 k2, .int .u32 k3] 45)).drew := hb3.drew
      have HBr : Hid (Below wS.heap.size wS (wr.alloc (.cells #[.int .u8 k1, .int .u32 k2, .int .u32 k3] 45)).drew) := Lib.hid (HB.out.trans ((HB2.out.mono HB.out.size).trans (HKr.out.below.trans (hb4.mono (Nat.le_trans HB.out.size (Nat.le_trans HB2.out.size HKr.out.below.size))))))
      have hGr : ∀ gb, G gb → gb < wr.heap.size := fun gb hg => Nat.lt_of_lt_of_le (HG.out gb hg).1 (Nat.le_trans HB2.out.size HKr.out.below.size)
      have HK4 : Hid (KpG wS.heap.size G w2 (wr.alloc (.cells #[.int .u8 k1, .int .u32 k2, .int .u32 k3] 45)).drew) := Lib.hid (HKr.out.t (KpG.new hb4 (Nat.le_trans HB.out.size (Nat.le_trans HB2.out.size HKr.out.below.size)) hGr))
      have HJ4 : Hid (J pre (wr.alloc (.cells #[.int .u8 k1, .int .u32 k2, .int .u32 k3] 45)).drew) := Lib.hid (hJ pre wr _ none hJs ⟨hb4.os, hb4.tape, hb4.output, hb4.size, fun k hk _ => hb4.block k hk⟩ (fun r e => by cases e))
      have HKb : Hid (Blk (wr.alloc (.cells #[.int .u8 k1, .int .u32 k2, .int .u32 k3] 45)).drew wr.heap.size 45 #[.int .u8 k1, .int .u32 k2, .int .u32 k3]) := Lib.hid ((Blk.new wr 45 #[.int .u8 k1, .int .u32 k2, .int .u32 k3]).later (Below.refl _ _).drew)
      have HLim : Hid (∀ gb blk, G gb → Pts (wr.alloc (.cells #[.int .u8 k1, .int .u32 k2, .int .u32 k3] 45)).drew gb blk → blk < (wr.alloc (.cells #[.int .u8 k1, .int .u32 k2, .int .u32 k3] 45)).drew.heap.size) := Lib.hid ((HK2.out.t HK4.out).lim fun gb blk hg hp => absurd hp ((HG.out gb hg).2 blk))
      replace HYs := Lib.hid (HYs.out.kp (KpG.new hb4 (Nat.le_trans HB.out.size (Nat.le_trans HB2.out.size HKr.out.below.size)) hGr) HGB.out)
      clear hb3 hb4 hGr hJs
      gi_wp2
      clear c0 c1 c2
      refine wpIn_region_u rfl (fun W : World => W.cell? ⟨Bs, 0, none⟩ = some (.pointer (some ⟨g, 0, none⟩)) ∧ W.cell? ⟨Bn, 0, none⟩ = some (.int .i64 now) ∧ Blk W wr.heap.size 45 #[.int .u8 k1, .int .u32 k2, .int .u32 k3] ∧ Blk W g 91 #[.map (some bm), .int .i64 most] ∧ MapF keyV W bm (fun k => (f k).map OneE.v) N) 10 [(0, 0, []), (1, 0, []), (2, 0, [3, 4, 5, 7, 9]), (3, 0, [4, 5, 7, 9]), (4, 0, [5, 7, 9]), (5, 0, [7, 9]), (6, 0, [7, 9]), (7, 0, [9]), (8, 0, [9]), (9, 1, []), (10, 2, []), (11, 2, [])] (by kernel_rfl) (fun _ d _ _ _ h => by cases d <;> exact h) ?_
      simp only [List.map_cons, List.map_nil, nthOp_zero, nthOp_succ]
      have HS : Hid ((fun W : World => W.cell? ⟨Bs, 0, none⟩ = some (.pointer (some ⟨g, 0, none⟩)) ∧ W.cell? ⟨Bn, 0, none⟩ = some (.int .i64 now) ∧ Blk W wr.heap.size 45 #[.int .u8 k1, .int .u32 k2, .int .u32 k3] ∧ Blk W g 91 #[.map (some bm), .int .i64 most] ∧ MapF keyV W bm (fun k => (f k).map OneE.v) N) (wr.alloc (.cells #[.int .u8 k1, .int .u32 k2, .int .u32 k3] 45)).drew) := Lib.hid ⟨HC1.out _ (HK2.out.t HK4.out), HC2.out _ (HK2.out.t HK4.out), HKb.out, (HQ.out.later HBr.out).blk, (HQ.out.later HBr.out).map⟩
      clear HKb
      generalize (wr.alloc (.cells #[.int .u8 k1, .int .u32 k2, .int .u32 k3] 45)).drew = w4 at *
      generalize wr.heap.size = gk at *
      refine wpU_take HS (by kernel_rfl) (by intro W _; rfl) (by intro W hW; have j1 := hW.1; have j2 := hW.2.1; have j0 := hW.2.2.2.1.cell 0; simp only [List.getElem?_toArray, List.getElem?_cons_zero] at j0; clear hW; go_simp; try with_reducible rfl) ?_
      refine wpU_take HS (by kernel_rfl) (by intro W _; rfl) (fun W hW => exec_load_row rfl rfl hW.2.2.1 Try.underlying45 rfl info_key3) ?_
      refine wpU_take HS (by kernel_rfl) (by intro W _; rfl) (by intro W hW; have j1 := hW.1; have j2 := hW.2.1; have j0 := hW.2.2.2.1.cell 0; simp only [List.getElem?_toArray, List.getElem?_cons_zero] at j0; clear hW; go_simp; try with_reducible rfl) ?_
      go_simp
      refine wpU_take HS (by kernel_rfl) (by intro W _; rfl) (by intro W hW; have j1 := hW.1; have j2 := hW.2.1; have j0 := hW.2.2.2.1.cell 0; simp only [List.getElem?_toArray, List.getElem?_cons_zero] at j0; clear hW; go_simp; try with_reducible rfl) ?_
      refine wpU_take HS (by kernel_rfl) (by intro W _; rfl) (by intro W hW; have j1 := hW.1; have j2 := hW.2.1; have j0 := hW.2.2.2.1.cell 0; simp only [List.getElem?_toArray, List.getElem?_cons_zero] at j0; clear hW; go_simp; try with_reducible rfl) ?_
      refine wpU_take HS (by kernel_rfl) (by intro W _; rfl) (by intro W hW; have j1 := hW.1; have j2 := hW.2.1; have j0 := hW.2.2.2.1.cell 0; simp only [List.getElem?_toArray, List.getElem?_cons_zero] at j0; clear hW; go_simp; try with_reducible rfl) ?_
      go_simp
      refine wpU_take HS (by kernel_rfl) (by intro W _; rfl) (fun W hW => exec_load_row rfl rfl hW.2.2.1 Try.underlying45 rfl info_key3) ?_
      refine wpU_take HS (by kernel_rfl) (by intro W _; rfl) (fun W hW => exec_lookupF (a := (k1, k2, k3)) keyT Try.underlying89 zeroOne rfl hW.2.2.2.2 rfl rfl) ?_
      simp only [HLK.out]
      refine wpU_take HS (by kernel_rfl) (by intro W _; rfl) (by intro W hW; have j1 := hW.1; have j2 := hW.2.1; have j0 := hW.2.2.2.1.cell 0; simp only [List.getElem?_toArray, List.getElem?_cons_zero] at j0; clear hW; go_simp; try with_reducible rfl) ?_
      refine wpU_do fun K hK => ?_
      go_simp
      have HX4 := Lib.hid ((HQ.out.later HBr.out).good _ _ HX.out)
      gi_wp2
      refine ⟨trivial, ?_⟩
      refine (callsIn_wide.2 (then_any x now w4 HX4.out.2.1 HX4.out.2.2 hnow)).mono ?_
      rintro e w5 ⟨s', rfl, hsh, hso, hsB, hsn, hb5⟩
      have hGw : ∀ gb, G gb → gb < w4.heap.size := fun gb hg => Nat.lt_of_lt_of_le (HG.out gb hg).1 (Nat.le_trans HB2.out.size HK4.out.below.size)
      have HB5 : Hid (Below wS.heap.size wS w5) := Lib.hid (below_then HBr.out hb5)
      have HK5 : Hid (KpG wS.heap.size G w2 w5) := Lib.hid (HK4.out.t (KpG.new hb5 HBr.out.size hGw))
      have HJ5 : Hid (J pre w5) := Lib.hid (hJ pre w4 w5 none HJ4.out ⟨hb5.os, hb5.tape, hb5.output, hb5.size, fun k hk _ => hb5.block k hk⟩ (fun r e => by cases e))
      have HS5 : Hid ((fun W : World => W.cell? ⟨Bs, 0, none⟩ = some (.pointer (some ⟨g, 0, none⟩)) ∧ W.cell? ⟨Bn, 0, none⟩ = some (.int .i64 now) ∧ Blk W gk 45 #[.int .u8 k1, .int .u32 k2, .int .u32 k3] ∧ Blk W g 91 #[.map (some bm), .int .i64 most] ∧ MapF keyV W bm (fun k => (f k).map OneE.v) N) w5) := Lib.hid ⟨HC1.out _ (HK2.out.t HK5.out), HC2.out _ (HK2.out.t HK5.out), HS.out.2.2.1.later hb5, (HQ.out.later HB5.out).blk, (HQ.out.later HB5.out).map⟩
      have HH := Lib.hid (And.intro hsh (And.intro hsB (And.intro hsn hso.head)))
      have hpG : ∀ gb blk, G gb → Pts w5 gb blk → blk < w4.heap.size := fun gb blk hg ⟨o, n, c, hp⟩ => HLim.out gb blk hg ⟨o, n, c, by rw [← hb5.cell (p := ⟨gb, 0, none⟩) (hGw gb hg)]; exact hp⟩
      have HYn : Hid (YsIn w0.heap.size G (yS pre ++ [s']) w5) := Lib.hid ((HYs.out.kp (KpG.new hb5 HBr.out.size hGw) HGB.out).snoc (fun s hs p hp => (own_at (HYs.out.own s hs).1.body hp).2.1) hso (Nat.le_trans HSz.out (Nat.le_trans HB2.out.size HK4.out.below.size)) hpG)
      clear hsh hso hsB hsn hb5 hGw HJ4 HK4 HBr HS hpG HLim HYs
      gi_wp2
      refine hK.out _ _ HS5.out ?_
      clear hK K
      refine wpU_end fun K hK => ?_
      go_simp
      have hlp : pre.length < N := by
        have := congrArg List.length HPre.out
        rw [List.length_map, List.length_take, HKs.out.len] at this
        omega
      obtain ⟨fn, tmps, assign, body, hy, hR⟩ := hY pre ⟨((k1, k2, k3), s'), x, HX.out, HH.out⟩ w5 HJ5.out hlp
      try dsimp only at hy
      gi_wp2
      refine hR.mono ?_
      rintro e W3 ⟨rfl, hJ3, hk3⟩
      gi_wp2
      refine hK.out _ _ ?_
      clear hK K
      refine wpU_end fun K hK => ?_
      go_simp
      gi_wp2
      refine hK.out _ _ ?_
      clear hK K
      refine wpU_nil ?_
      go_simp
      gi_wp2
      go_roundw
      case rel => exact ⟨j + 1, pre ++ [⟨((k1, k2, k3), s'), x, HX.out, HH.out⟩], by simp, by omega, by rw [List.map_append, HPre.out, List.take_add_one, HKj.out]; rfl, hJ3, HK5.out.t hk3, by
        unfold yS
        rw [List.map_append]
        exact HYn.out.kp hk3 HGB.out⟩
      case measure => simp [intOf]; omega
    · obtain rfl : j = N := by omega
      gi_wp2
      go_end0
      have hpe : pre.map (fun p : Ydd f now => p.1.1) = ks := by rw [HPre.out, List.take_of_length_le (by rw [HKs.out.len]; exact Nat.le_refl _)]
      exact ⟨⟨_, rfl⟩, pre, ⟨by rw [hpe]; exact HKs.out, HYs.out⟩, hJs⟩
end Go.Proofs.Ytpncbggjngamgaa
