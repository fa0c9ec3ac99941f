/-
  The bag: a list more of a kind. Printed by gen_bga.py.
  The bag: AddState, AddStates. Printed by gen_bgs.py.
  Both stores and the bag side by side: what stands while one of them is written.
-/
import Derived.Test.YtpncbggjngamgaaCA08
import Derived.Test.YtpncbggjngamgaaCA10
namespace Go.Proofs.Ytpncbggjngamgaa
set_option linter.unusedVariables false
open Go.RowKit Go.ChangeShapes Go.WideShapes

/-- What an adder leaves. -/
structure Added (n0 : Nat) (G G' : Nat → Sl) (L L' : Nat → List Sl) (j : Nat) (l : Sl) : Prop where
  oth : ∀ i, i ≠ j → G' i = G i ∧ L' i = L i
  self : L' j = L j ∨ L' j = L j ++ [l]
  blk : ∀ b, (G' j).v.ownBlock = some b → (G j).v.ownBlock = some b ∨ n0 ≤ b
def AddP (W W' : World) (base g : Nat) (G : Nat → Sl) (L : Nat → List Sl) (j : Nat) (l : Sl) (e : Ending) : Prop :=
  (∃ v, e = .returned v) ∧ ∃ G' L', BagN W' base g G' L' ∧ Kept (BagF g G) W W' ∧ Added W.heap.size G G' L L' j l
theorem el_b0 : El Try.prog 63 29 1 24 := El.mk' Try.underlying63 (z := .slice none 0 0) (by kernel_rfl) rfl (by decide)
set_option maxRecDepth 100000 in
set_option maxHeartbeats 2000000 in
theorem addBytes_any (W : World) (base g : Nat) (G : Nat → Sl) (L : Nat → List Sl) (h : BagN W base g G L) (hb : base ≤ W.heap.size) (l : Sl) (xs : List Value) (hl : W.ownsRow base 5 (bsz 0) l.v l.n xs) (hlf : l.n ≤ 1099511627776)
    (hsep : ∀ s ∈ L 0, ∀ b, s.v.ownBlock = some b → l.v.ownBlock ≠ some b) :
    Calls Try.prog 74 #[.pointer (some ⟨g, 0, none⟩), .slice l.A l.n l.c] W fun e w' => AddP W w' base g G L 0 l e := by
  obtain ⟨lA, ln, lc⟩ := l
  obtain ⟨⟨GA, gn, gc⟩, hG⟩ : ∃ s, G 0 = s := ⟨_, rfl⟩
  have y0 := (h.cell (j := 0) (by decide)).1
  rw [hG] at y0
  have HH := Lib.hid h
  have HG := Lib.hid hG
  have HLs := Lib.hid (And.intro hl hsep)
  have HB := Lib.hid hb
  have hfew : gn ≤ 300 := by have := h.few 0 (by decide); rw [hG] at this; exact this
  clear h hG hl hsep hb
  dsimp only [Sl.v] at y0
  by_cases hlt : gn < 300
  · have hd : decide ((gn : Int) < 300) = true := decide_eq_true (by omega)
    have hbb : Below W.heap.size W (W.alloc (.cells #[.slice lA ln lc] 29)) := (Below.refl _ _).alloc (Nat.le_refl _) _
    have HHb := Lib.hid (HH.out.later hbb)
    have hr := HHb.out.row 0 (by decide)
    rw [HG.out] at hr
    have HR := Lib.hid (show (W.alloc (.cells #[.slice lA ln lc] 29)).ownsRow base 29 1 (.slice GA gn gc) gn (slv (L 0)) from hr)
    have HRd : Hid (Reads (W.alloc (.cells #[.slice lA ln lc] 29)) (W.heap.size + 1) 1 (some ⟨W.heap.size, 0, none⟩) 1 [.slice lA ln lc]) := Lib.hid (Reads.one_new _ _ _)
    have HLb := Lib.hid (own_kept HLs.out.1 (Kept.of_new hbb (fun _ => False)) (fun _ _ h => h))
    have HW1 := Lib.hid hbb
    clear hr hbb
    go_enter Try.func74, Try.ntmps74
    go_wp2_with (at_builtin; go_must (refine wpList_app el_b0 rfl (.tmp 14) (.tmp 16) rfl HR.out rfl HRd.out rfl (by simp [Value.oneCell']) (by simp only [maxLen]; omega) (by omega) (by have := HB.out; rw [World.size_alloc]; omega) ?_); intro v2 w2 ho2 hb2 hg2 hbl2; obtain ⟨s2A, s2c, hv2, -⟩ := (OwnW.of_own ho2).shape; subst hv2; have H2 := Lib.hid (And.intro ho2 (And.intro hg2 hbl2)); have hcc : w2.cell? ⟨g, 0, none⟩ = some (.slice GA gn gc) ∧ w2.frozen? ⟨g, 0, none⟩ = false := (by obtain ⟨C, hC, _, hc⟩ := HHb.out.blk; have hC2 : Blk w2 g 83 C := hC.grown hg2 (fun e => own_blk_ne HR.out hC (by decide) e.symm); have h7 := hc 0 (by decide); rw [HG.out] at h7; exact ⟨(hC2.cell 0).trans h7, hC2.frozen 0⟩); clear ho2 hb2 hg2 hbl2; clear y0; have y0 := hcc.1; have f0 := hcc.2; clear hcc)
    go_end0
    have hadd := HHb.out.add (j := 0) (by decide) (by rw [HG.out]; exact hlt) (l := ⟨lA, ln, lc⟩) (s2 := ⟨s2A, gn + 1, s2c⟩) HLb.out hlf HLs.out.2 (by rw [HG.out]; exact H2.out.1) (by rw [HG.out]) (by rw [HG.out]; exact H2.out.2.1) (by rw [HG.out]; exact H2.out.2.2)
    refine ⟨⟨_, rfl⟩, _, _, hadd.1, (Kept.of_new HW1.out (BagF g G)).trans hadd.2 (fun _ _ h => h), ⟨fun i hi => ⟨updN_ne _ _ hi, updN_ne _ _ hi⟩, .inr (updN_self _ _ _), fun b hb => ?_⟩⟩
    rw [updN_self] at hb
    rcases H2.out.2.2 with e | e
    · left
      rw [HG.out]
      exact e.symm.trans hb
    · right
      have e2 := e.symm.trans hb
      injection e2 with e2
      rw [← e2, World.size_alloc]
      omega
  · have hd : decide ((gn : Int) < 300) = false := decide_eq_false (by omega)
    go_enter Try.func74, Try.ntmps74
    go_wp2_with fail
    go_end0
    exact ⟨⟨_, rfl⟩, G, L, HH.out, Kept.refl _ _, ⟨fun i _ => ⟨rfl, rfl⟩, .inl rfl, fun b hb => .inl hb⟩⟩
theorem el_b7 : El Try.prog 70 38 1 24 := El.mk' Try.underlying70 (z := .slice none 0 0) (by kernel_rfl) rfl (by decide)
set_option maxRecDepth 100000 in
set_option maxHeartbeats 2000000 in
theorem addHeads_any (W : World) (base g : Nat) (G : Nat → Sl) (L : Nat → List Sl) (h : BagN W base g G L) (hb : base ≤ W.heap.size) (l : Sl) (xs : List Value) (hl : W.ownsRow base 28 (bsz 7) l.v l.n xs) (hlf : l.n ≤ 1099511627776)
    (hsep : ∀ s ∈ L 7, ∀ b, s.v.ownBlock = some b → l.v.ownBlock ≠ some b) :
    Calls Try.prog 59 #[.pointer (some ⟨g, 0, none⟩), .slice l.A l.n l.c] W fun e w' => AddP W w' base g G L 7 l e := by
  obtain ⟨lA, ln, lc⟩ := l
  obtain ⟨⟨GA, gn, gc⟩, hG⟩ : ∃ s, G 7 = s := ⟨_, rfl⟩
  have y0 := (h.cell (j := 7) (by decide)).1
  rw [hG] at y0
  have HH := Lib.hid h
  have HG := Lib.hid hG
  have HLs := Lib.hid (And.intro hl hsep)
  have HB := Lib.hid hb
  have hfew : gn ≤ 300 := by have := h.few 7 (by decide); rw [hG] at this; exact this
  clear h hG hl hsep hb
  dsimp only [Sl.v] at y0
  by_cases hlt : gn < 300
  · have hd : decide ((gn : Int) < 300) = true := decide_eq_true (by omega)
    have hbb : Below W.heap.size W (W.alloc (.cells #[.slice lA ln lc] 38)) := (Below.refl _ _).alloc (Nat.le_refl _) _
    have HHb := Lib.hid (HH.out.later hbb)
    have hr := HHb.out.row 7 (by decide)
    rw [HG.out] at hr
    have HR := Lib.hid (show (W.alloc (.cells #[.slice lA ln lc] 38)).ownsRow base 38 1 (.slice GA gn gc) gn (slv (L 7)) from hr)
    have HRd : Hid (Reads (W.alloc (.cells #[.slice lA ln lc] 38)) (W.heap.size + 1) 1 (some ⟨W.heap.size, 0, none⟩) 1 [.slice lA ln lc]) := Lib.hid (Reads.one_new _ _ _)
    have HLb := Lib.hid (own_kept HLs.out.1 (Kept.of_new hbb (fun _ => False)) (fun _ _ h => h))
    have HW1 := Lib.hid hbb
    clear hr hbb
    go_enter Try.func59, Try.ntmps59
    go_wp2_with (at_builtin; go_must (refine wpList_app el_b7 rfl (.tmp 14) (.tmp 16) rfl HR.out rfl HRd.out rfl (by simp [Value.oneCell']) (by simp only [maxLen]; omega) (by omega) (by have := HB.out; rw [World.size_alloc]; omega) ?_); intro v2 w2 ho2 hb2 hg2 hbl2; obtain ⟨s2A, s2c, hv2, -⟩ := (OwnW.of_own ho2).shape; subst hv2; have H2 := Lib.hid (And.intro ho2 (And.intro hg2 hbl2)); have hcc : w2.cell? ⟨g, 7, none⟩ = some (.slice GA gn gc) ∧ w2.frozen? ⟨g, 7, none⟩ = false := (by obtain ⟨C, hC, _, hc⟩ := HHb.out.blk; have hC2 : Blk w2 g 83 C := hC.grown hg2 (fun e => own_blk_ne HR.out hC (by decide) e.symm); have h7 := hc 7 (by decide); rw [HG.out] at h7; exact ⟨(hC2.cell 7).trans h7, hC2.frozen 7⟩); clear ho2 hb2 hg2 hbl2; clear y0; have y0 := hcc.1; have f0 := hcc.2; clear hcc)
    go_end0
    have hadd := HHb.out.add (j := 7) (by decide) (by rw [HG.out]; exact hlt) (l := ⟨lA, ln, lc⟩) (s2 := ⟨s2A, gn + 1, s2c⟩) HLb.out hlf HLs.out.2 (by rw [HG.out]; exact H2.out.1) (by rw [HG.out]) (by rw [HG.out]; exact H2.out.2.1) (by rw [HG.out]; exact H2.out.2.2)
    refine ⟨⟨_, rfl⟩, _, _, hadd.1, (Kept.of_new HW1.out (BagF g G)).trans hadd.2 (fun _ _ h => h), ⟨fun i hi => ⟨updN_ne _ _ hi, updN_ne _ _ hi⟩, .inr (updN_self _ _ _), fun b hb => ?_⟩⟩
    rw [updN_self] at hb
    rcases H2.out.2.2 with e | e
    · left
      rw [HG.out]
      exact e.symm.trans hb
    · right
      have e2 := e.symm.trans hb
      injection e2 with e2
      rw [← e2, World.size_alloc]
      omega
  · have hd : decide ((gn : Int) < 300) = false := decide_eq_false (by omega)
    go_enter Try.func59, Try.ntmps59
    go_wp2_with fail
    go_end0
    exact ⟨⟨_, rfl⟩, G, L, HH.out, Kept.refl _ _, ⟨fun i _ => ⟨rfl, rfl⟩, .inl rfl, fun b hb => .inl hb⟩⟩
theorem el_b8 : El Try.prog 71 36 1 24 := El.mk' Try.underlying71 (z := .slice none 0 0) (by kernel_rfl) rfl (by decide)
set_option maxRecDepth 100000 in
set_option maxHeartbeats 2000000 in
theorem addKeys_any (W : World) (base g : Nat) (G : Nat → Sl) (L : Nat → List Sl) (h : BagN W base g G L) (hb : base ≤ W.heap.size) (l : Sl) (xs : List Value) (hl : W.ownsRow base 45 (bsz 8) l.v l.n xs) (hlf : l.n ≤ 1099511627776)
    (hsep : ∀ s ∈ L 8, ∀ b, s.v.ownBlock = some b → l.v.ownBlock ≠ some b) :
    Calls Try.prog 60 #[.pointer (some ⟨g, 0, none⟩), .slice l.A l.n l.c] W fun e w' => AddP W w' base g G L 8 l e := by
  obtain ⟨lA, ln, lc⟩ := l
  obtain ⟨⟨GA, gn, gc⟩, hG⟩ : ∃ s, G 8 = s := ⟨_, rfl⟩
  have y0 := (h.cell (j := 8) (by decide)).1
  rw [hG] at y0
  have HH := Lib.hid h
  have HG := Lib.hid hG
  have HLs := Lib.hid (And.intro hl hsep)
  have HB := Lib.hid hb
  have hfew : gn ≤ 300 := by have := h.few 8 (by decide); rw [hG] at this; exact this
  clear h hG hl hsep hb
  dsimp only [Sl.v] at y0
  by_cases hlt : gn < 300
  · have hd : decide ((gn : Int) < 300) = true := decide_eq_true (by omega)
    have hbb : Below W.heap.size W (W.alloc (.cells #[.slice lA ln lc] 36)) := (Below.refl _ _).alloc (Nat.le_refl _) _
    have HHb := Lib.hid (HH.out.later hbb)
    have hr := HHb.out.row 8 (by decide)
    rw [HG.out] at hr
    have HR := Lib.hid (show (W.alloc (.cells #[.slice lA ln lc] 36)).ownsRow base 36 1 (.slice GA gn gc) gn (slv (L 8)) from hr)
    have HRd : Hid (Reads (W.alloc (.cells #[.slice lA ln lc] 36)) (W.heap.size + 1) 1 (some ⟨W.heap.size, 0, none⟩) 1 [.slice lA ln lc]) := Lib.hid (Reads.one_new _ _ _)
    have HLb := Lib.hid (own_kept HLs.out.1 (Kept.of_new hbb (fun _ => False)) (fun _ _ h => h))
    have HW1 := Lib.hid hbb
    clear hr hbb
    go_enter Try.func60, Try.ntmps60
    go_wp2_with (at_builtin; go_must (refine wpList_app el_b8 rfl (.tmp 14) (.tmp 16) rfl HR.out rfl HRd.out rfl (by simp [Value.oneCell']) (by simp only [maxLen]; omega) (by omega) (by have := HB.out; rw [World.size_alloc]; omega) ?_); intro v2 w2 ho2 hb2 hg2 hbl2; obtain ⟨s2A, s2c, hv2, -⟩ := (OwnW.of_own ho2).shape; subst hv2; have H2 := Lib.hid (And.intro ho2 (And.intro hg2 hbl2)); have hcc : w2.cell? ⟨g, 8, none⟩ = some (.slice GA gn gc) ∧ w2.frozen? ⟨g, 8, none⟩ = false := (by obtain ⟨C, hC, _, hc⟩ := HHb.out.blk; have hC2 : Blk w2 g 83 C := hC.grown hg2 (fun e => own_blk_ne HR.out hC (by decide) e.symm); have h7 := hc 8 (by decide); rw [HG.out] at h7; exact ⟨(hC2.cell 8).trans h7, hC2.frozen 8⟩); clear ho2 hb2 hg2 hbl2; clear y0; have y0 := hcc.1; have f0 := hcc.2; clear hcc)
    go_end0
    have hadd := HHb.out.add (j := 8) (by decide) (by rw [HG.out]; exact hlt) (l := ⟨lA, ln, lc⟩) (s2 := ⟨s2A, gn + 1, s2c⟩) HLb.out hlf HLs.out.2 (by rw [HG.out]; exact H2.out.1) (by rw [HG.out]) (by rw [HG.out]; exact H2.out.2.1) (by rw [HG.out]; exact H2.out.2.2)
    refine ⟨⟨_, rfl⟩, _, _, hadd.1, (Kept.of_new HW1.out (BagF g G)).trans hadd.2 (fun _ _ h => h), ⟨fun i hi => ⟨updN_ne _ _ hi, updN_ne _ _ hi⟩, .inr (updN_self _ _ _), fun b hb => ?_⟩⟩
    rw [updN_self] at hb
    rcases H2.out.2.2 with e | e
    · left
      rw [HG.out]
      exact e.symm.trans hb
    · right
      have e2 := e.symm.trans hb
      injection e2 with e2
      rw [← e2, World.size_alloc]
      omega
  · have hd : decide ((gn : Int) < 300) = false := decide_eq_false (by omega)
    go_enter Try.func60, Try.ntmps60
    go_wp2_with fail
    go_end0
    exact ⟨⟨_, rfl⟩, G, L, HH.out, Kept.refl _ _, ⟨fun i _ => ⟨rfl, rfl⟩, .inl rfl, fun b hb => .inl hb⟩⟩
theorem el_b14 : El Try.prog 77 49 1 24 := El.mk' Try.underlying77 (z := .slice none 0 0) (by kernel_rfl) rfl (by decide)
end Go.Proofs.Ytpncbggjngamgaa
namespace Go.Proofs.Ytpncbggjngamgaa
set_option linter.unusedVariables false
open Go.RowKit

/-- A state's body as a slice. -/
def SE.sl (s : SE) : Sl := ⟨s.A, s.n, s.c⟩
theorem SE.ok.gsl {base : Nat} {w : World} {s : SE} (h : s.ok base w) : w.ownsRow base 5 (bsz 0) s.sl.v s.sl.n (u8s s.B) := h.body
/-- How a bag grew: what was gathered anew stands in blocks from n0 on, its own lists in their old blocks or in blocks from n1 on. -/
structure BagUp (n0 n1 : Nat) (G G' : Nat → Sl) (L L' : Nat → List Sl) : Prop where
  mem : ∀ j, ∀ s ∈ L' j, s ∈ L j ∨ ∀ b, s.v.ownBlock = some b → n0 ≤ b
  blk : ∀ j b, (G' j).v.ownBlock = some b → (G j).v.ownBlock = some b ∨ n1 ≤ b
theorem BagUp.refl (n0 n1 : Nat) (G : Nat → Sl) (L : Nat → List Sl) : BagUp n0 n1 G G L L := ⟨fun _ _ h => .inl h, fun _ _ h => .inl h⟩
theorem BagUp.trans {n0 m0 n1 m1 : Nat} {G G' G'' : Nat → Sl} {L L' L'' : Nat → List Sl} (h : BagUp n0 n1 G G' L L') (k : BagUp m0 m1 G' G'' L' L'') (hn : n0 ≤ m0) (hm : n1 ≤ m1) : BagUp n0 n1 G G'' L L'' :=
  ⟨fun j s hs => (k.mem j s hs).elim (fun h1 => h.mem j s h1) (fun h1 => .inr fun b hb => Nat.le_trans hn (h1 b hb)), fun j b hb => (k.blk j b hb).elim (fun h1 => h.blk j b h1) (fun h1 => .inr (Nat.le_trans hm h1))⟩
theorem Added.up {n0 n1 : Nat} {G G' : Nat → Sl} {L L' : Nat → List Sl} {j : Nat} {l : Sl} (h : Added n1 G G' L L' j l) (hl : ∀ b, l.v.ownBlock = some b → n0 ≤ b) : BagUp n0 n1 G G' L L' := by
  refine ⟨fun i s hs => ?_, fun i b hb => ?_⟩
  · by_cases e : i = j
    · subst e
      rcases h.self with e2 | e2
      · rw [e2] at hs; exact .inl hs
      · rw [e2] at hs
        rcases List.mem_append.1 hs with hs | hs
        · exact .inl hs
        · rw [List.mem_singleton] at hs
          subst hs
          exact .inr hl
    · rw [(h.oth i e).2] at hs
      exact .inl hs
  · by_cases e : i = j
    · subst e
      exact h.blk b hb
    · rw [(h.oth i e).1] at hb
      exact .inl hb
theorem BagF.back {n0 n1 g b : Nat} {G G' : Nat → Sl} {L L' : Nat → List Sl} (h : BagF g G' b) (u : BagUp n0 n1 G G' L L') (hb : b < n1) : BagF g G b := by
  rcases h with h | ⟨j, hj, h⟩
  · exact .inl h
  · rcases u.blk j b h with h1 | h1
    · exact .inr ⟨j, hj, h1⟩
    · omega
theorem BagN.not_own {W : World} {base g b' sz n : Nat} {G : Nat → Sl} {L : Nat → List Sl} {e : TypeId} {v : Value} {xs : List Value} (h : BagN W base g G L) (ho : W.ownsRow b' e sz v n xs) (h1 : e ≠ 83) (h2 : ∀ j, j < 19 → e ≠ bty j) : ∀ b, v.ownBlock = some b → ¬ BagF g G b := by
  intro b hb hF
  rcases hF with rfl | ⟨j, hj, hF⟩
  · obtain ⟨C, hC, _⟩ := h.blk
    exact own_blk_ne ho hC h1 hb
  · exact own_ne ho (h.row j hj) (h2 j hj) b hb hF
theorem BagN.not_blk {W : World} {base g b : Nat} {G : Nat → Sl} {L : Nat → List Sl} {t : TypeId} {cs : Array Value} (h : BagN W base g G L) (hB : Blk W b t cs) (h1 : t ≠ 83) (h2 : ∀ j, j < 19 → bty j ≠ t) : ¬ BagF g G b := by
  intro hF
  rcases hF with rfl | ⟨j, hj, hF⟩
  · obtain ⟨C, hC, _⟩ := h.blk
    exact blk_ne hC hB (fun e => h1 e.symm) rfl
  · exact own_blk_ne (h.row j hj) hB (h2 j hj) hF
theorem BagN.keep_ok {W W' : World} {base g B : Nat} {G : Nat → Sl} {L : Nat → List Sl} {s : SE} (h : BagN W base g G L) (k : Kept (BagF g G) W W') (hs : s.ok B W) : s.ok B W' :=
  ⟨hs.head, own_kept hs.body k (h.not_own hs.body (by decide) (fun j hj => bel_bty 0 j (by decide) hj)), hs.oct, hs.len⟩
set_option maxRecDepth 100000 in
set_option maxHeartbeats 2000000 in
theorem addState_any (W : World) (base g : Nat) (G : Nat → Sl) (L : Nat → List Sl) (h : BagN W base g G L) (hb : base ≤ W.heap.size) (s : SE) (hs : s.ok base W) (hsep : ∀ t ∈ L 0, ∀ b, t.v.ownBlock = some b → s.b.ownBlock ≠ some b) :
    Calls Try.prog 48 #[.pointer (some ⟨g, 0, none⟩), s.v] W fun e w' => AddP W w' base g G L 0 s.sl e := by
  obtain ⟨h0, A, n, c, B⟩ := s
  have hbb : Below W.heap.size W (W.alloc (.cells #[.int .u16 h0.age, .int .u8 h0.opts, .int .u8 h0.typ, .int .u32 h0.id, .int .u32 h0.adv, .int .i32 h0.seq, .int .u16 h0.sum, .int .u16 h0.len, .slice A n c] 31)) := (Below.refl _ _).alloc (Nat.le_refl _) _
  have hX : Blk (W.alloc (.cells #[.int .u16 h0.age, .int .u8 h0.opts, .int .u8 h0.typ, .int .u32 h0.id, .int .u32 h0.adv, .int .i32 h0.seq, .int .u16 h0.sum, .int .u16 h0.len, .slice A n c] 31)) W.heap.size 31 #[.int .u16 h0.age, .int .u8 h0.opts, .int .u8 h0.typ, .int .u32 h0.id, .int .u32 h0.adv, .int .i32 h0.seq, .int .u16 h0.sum, .int .u16 h0.len, .slice A n c] := Blk.new _ _ _
  have x8 := hX.cell 8
  simp only [List.getElem?_toArray, List.getElem?_cons_zero, List.getElem?_cons_succ] at x8
  have HA := Lib.hid (addBytes_any (W.alloc (.cells #[.int .u16 h0.age, .int .u8 h0.opts, .int .u8 h0.typ, .int .u32 h0.id, .int .u32 h0.adv, .int .i32 h0.seq, .int .u16 h0.sum, .int .u16 h0.len, .slice A n c] 31)) base g G L (h.later hbb) (by rw [World.size_alloc]; omega) ⟨A, n, c⟩ (u8s B) (hs.later hbb).gsl hs.len hsep)
  have HB := Lib.hid hbb
  clear h hs hsep hX hbb
  show Calls Try.prog 48 #[.pointer (some ⟨g, 0, none⟩), .agg #[.int .u16 h0.age, .int .u8 h0.opts, .int .u8 h0.typ, .int .u32 h0.id, .int .u32 h0.adv, .int .i32 h0.seq, .int .u16 h0.sum, .int .u16 h0.len, .slice A n c]] W fun e w' => AddP W w' base g G L 0 ⟨A, n, c⟩ e
  go_enter Try.func48, Try.ntmps48
  go_wp2_with fail
  refine HA.out.mono ?_
  rintro e w2 ⟨⟨v, rfl⟩, G', L', h1, h2, h3⟩
  have H := Lib.hid (And.intro h1 (And.intro h2 h3))
  clear h1 h2 h3
  go_wp2_with fail
  go_end0
  exact ⟨⟨_, rfl⟩, G', L', H.out.1, (Kept.of_new HB.out (BagF g G)).trans H.out.2.1 (fun _ _ h => h), ⟨H.out.2.2.oth, H.out.2.2.self, fun b hb => (H.out.2.2.blk b hb).imp id (fun h => Nat.le_trans HB.out.size h)⟩⟩
/-- What AddStates leaves. -/
def AddsP (W W' : World) (base g n0 : Nat) (G : Nat → Sl) (L : Nat → List Sl) (e : Ending) : Prop :=
  (∃ v, e = .returned v) ∧ ∃ G' L', BagN W' base g G' L' ∧ Kept (BagF g G) W W' ∧ BagUp n0 W.heap.size G G' L L' ∧ ∀ j, j ≠ 0 → j ≠ 14 → L' j = L j
structure AdsR (W : World) (base g n0 : Nat) (G : Nat → Sl) (L : Nat → List Sl) (A : Option Addr) (N c : Nat) (ss : List SE) (iv : Value) (wr : World) : Prop where
  ex : ∃ (i : Nat) (G' : Nat → Sl) (L' : Nat → List Sl), iv = .int .i64 i ∧ i ≤ N ∧ Hid (BagN wr base g G' L') ∧ Hid (BagUp n0 W.heap.size G G' L L' ∧ ∀ j, j ≠ 0 → j ≠ 14 → L' j = L j) ∧ Hid (∀ t ∈ L' 0, t ∈ L 0 ∨ ∃ x ∈ ss.take i, t = x.sl)
  k : Hid (Kept (BagF g G) W wr)
  row : Hid (wr.ownsRow base 31 9 (.slice A N c) N (ss.flatMap stL))
  ok : Hid (∀ x ∈ ss, x.ok base wr)
set_option maxRecDepth 100000 in
set_option maxHeartbeats 4000000 in
theorem addStates_any (W : World) (base g n0 : Nat) (G : Nat → Sl) (L : Nat → List Sl) (h : BagN W base g G L) (hb : base ≤ W.heap.size) (hn0 : n0 ≤ W.heap.size) (A : Option Addr) (N c : Nat) (ss : List SE) (hN : N ≤ 4096) (hl : ss.length = N)
    (hr : W.ownsRow n0 31 9 (.slice A N c) N (ss.flatMap stL)) (hbn : base ≤ n0) (hs : ∀ x ∈ ss, x.ok n0 W) (hp : ss.Pairwise fun a b => ∀ p, a.b.ownBlock = some p → b.b.ownBlock ≠ some p)
    (hs0 : ∀ t ∈ L 0, ∀ b, t.v.ownBlock = some b → b < n0) (hs14 : ∀ t ∈ L 14, ∀ b, t.v.ownBlock = some b → b < n0) :
    Calls Try.prog 58 #[.pointer (some ⟨g, 0, none⟩), .slice A N c] W fun e w' => AddsP W w' base g n0 G L e := by
  obtain ⟨⟨GA, gn, gc⟩, hG⟩ : ∃ s, G 14 = s := ⟨_, rfl⟩
  have y0 := (h.cell (j := 14) (by decide)).1
  rw [hG] at y0
  have HH := Lib.hid h
  have HG := Lib.hid hG
  have HL := Lib.hid hl
  have HP := Lib.hid hp
  have HR := Lib.hid hr
  have HS := Lib.hid hs
  have HS0 := Lib.hid hs0
  have HS14 := Lib.hid hs14
  have HB := Lib.hid hb
  have hfew : gn ≤ 300 := by have := h.few 14 (by decide); rw [hG] at this; exact this
  have HNb : Hid (∀ b, (⟨A, N, c⟩ : Sl).v.ownBlock = some b → n0 ≤ b) := Lib.hid fun b hb => (own_ge hr hb).1
  have HNs : Hid (∀ x ∈ ss, ∀ b, x.sl.v.ownBlock = some b → n0 ≤ b) := Lib.hid fun x hx b hb => (own_ge (hs x hx).body hb).1
  clear h hG hl hp hr hs hs0 hs14 hb
  dsimp only [Sl.v] at y0
  go_enter Try.func58, Try.ntmps58
  by_cases hlt : gn < 300
  · have hd : decide ((gn : Int) < 300) = true := decide_eq_true (by omega)
    have hbb : Below W.heap.size W (W.alloc (.cells #[.slice A N c] 49)) := (Below.refl _ _).alloc (Nat.le_refl _) _
    have HHb := Lib.hid (HH.out.later hbb)
    have hr := HHb.out.row 14 (by decide)
    rw [HG.out] at hr
    have HR1 := Lib.hid (show (W.alloc (.cells #[.slice A N c] 49)).ownsRow base 49 1 (.slice GA gn gc) gn (slv (L 14)) from hr)
    have HRd : Hid (Reads (W.alloc (.cells #[.slice A N c] 49)) (W.heap.size + 1) 1 (some ⟨W.heap.size, 0, none⟩) 1 [.slice A N c]) := Lib.hid (Reads.one_new _ _ _)
    have HLb := Lib.hid (own_kept (own_mono HR.out hbn) (Kept.of_new hbb (fun _ => False)) (fun _ _ h => h))
    have HW1 := Lib.hid hbb
    clear hr hbb
    go_wp2_with (at_builtin; go_must (refine wpList_app el_b14 rfl (.tmp 15) (.tmp 17) rfl HR1.out rfl HRd.out rfl (by simp [Value.oneCell']) (by simp only [maxLen]; omega) (by omega) (by have := HB.out; rw [World.size_alloc]; omega) ?_); intro v2 w2 ho2 hb2 hg2 hbl2; obtain ⟨s2A, s2c, hv2, -⟩ := (OwnW.of_own ho2).shape; subst hv2; have H2 := Lib.hid (And.intro ho2 (And.intro hg2 hbl2)); have hcc : w2.cell? ⟨g, 14, none⟩ = some (.slice GA gn gc) ∧ w2.frozen? ⟨g, 14, none⟩ = false := (by obtain ⟨C, hC, _, hc⟩ := HHb.out.blk; have hC2 : Blk w2 g 83 C := hC.grown hg2 (fun e => own_blk_ne HR1.out hC (by decide) e.symm); have h7 := hc 14 (by decide); rw [HG.out] at h7; exact ⟨(hC2.cell 14).trans h7, hC2.frozen 14⟩); clear ho2 hb2 hg2 hbl2; clear y0; have y0 := hcc.1; have f0 := hcc.2; clear hcc)
    have hadd := HHb.out.add (j := 14) (by decide) (by rw [HG.out]; exact hlt) (l := ⟨A, N, c⟩) (s2 := ⟨s2A, gn + 1, s2c⟩) HLb.out (by show N ≤ _; omega) (fun s hs b hb hb2 => by have h1 := HS14.out s hs b hb; have h2 := HNb.out b hb2; omega) (by rw [HG.out]; exact H2.out.1) (by rw [HG.out]) (by rw [HG.out]; exact H2.out.2.1) (by rw [HG.out]; exact H2.out.2.2)
    have hk3 : Kept (BagF g G) W (w2.setCell ⟨g, 14, none⟩ (.slice s2A (gn + 1) s2c)) := (Kept.of_new HW1.out (BagF g G)).trans hadd.2 (fun _ _ h => h)
    have HU : Hid (BagUp n0 W.heap.size G (updN G 14 ⟨s2A, gn + 1, s2c⟩) L (updN L 14 (L 14 ++ [⟨A, N, c⟩]))) := Lib.hid (by
      refine Added.up (j := 14) (l := ⟨A, N, c⟩) ⟨fun i hi => ⟨updN_ne _ _ hi, updN_ne _ _ hi⟩, .inr (updN_self _ _ _), fun b hb => ?_⟩ HNb.out
      rw [updN_self] at hb
      rcases H2.out.2.2 with e | e
      · left
        rw [HG.out]
        exact e.symm.trans hb
      · right
        have e2 := e.symm.trans hb
        injection e2 with e2
        rw [← e2, World.size_alloc]
        omega)
    have HN3 := Lib.hid hadd.1
    have HL0 : Hid ((updN L 14 (L 14 ++ [(⟨A, N, c⟩ : Sl)])) 0 = L 0) := Lib.hid (updN_ne _ _ (by decide))
    have HR3 := Lib.hid (own_kept (own_mono HR.out hbn) hk3 (HH.out.not_own HR.out (by decide) (fun j hj => bel_bty 14 j (by decide) hj)))
    have HO3 : Hid (∀ x ∈ ss, x.ok base (w2.setCell ⟨g, 14, none⟩ (.slice s2A (gn + 1) s2c))) := Lib.hid fun x hx => HH.out.keep_ok hk3 ((HS.out x hx).mono hbn)
    have HK3 := Lib.hid hk3
    clear y0 f0 hadd hk3 H2 HR1 HRd HLb HHb HW1
    have HOF : Hid (∀ j, j ≠ 0 → j ≠ 14 → (updN L 14 (L 14 ++ [(⟨A, N, c⟩ : Sl)])) j = L j) := Lib.hid fun j _ hj => updN_ne _ _ hj
    generalize w2.setCell ⟨g, 14, none⟩ (.slice s2A (gn + 1) s2c) = w3 at *
    generalize updN G 14 (⟨s2A, gn + 1, s2c⟩ : Sl) = G3 at *
    generalize updN L 14 (L 14 ++ [(⟨A, N, c⟩ : Sl)]) = L3 at *
    go_loopw [4] (AdsR W base g n0 G L A N c ss) (fun iv _ => N - (intOf iv).toNat)
    case atStart => exact ⟨⟨0, G3, L3, rfl, Nat.zero_le _, HN3, Lib.hid ⟨HU.out, HOF.out⟩, Lib.hid fun t ht => (by rw [HL0.out] at ht; exact .inl ht)⟩, HK3, HR3, HO3⟩
    case round =>
      obtain ⟨⟨i, G', L', rfl, hi, hN', hU, hmem⟩, hk, hrow, hok⟩ := hrel
      generalize wr = wj at *
      by_cases hlt2 : i < N
      · have hd2 : decide ((i : Int) < N) = true := decide_eq_true (by omega)
        by_cases h300 : i < 300
        · have hd3 : decide ((i : Int) < 300) = true := decide_eq_true (by omega)
          obtain ⟨ad, x, hA, hadb, hxs, h00, h0j⟩ := rowG_at stL_len (Reads.of_own hrow.out) HL.out hlt2
          subst hA
          have HX := Lib.hid hxs
          have hxm := List.mem_of_getElem? hxs
          have q0 := h00 _ rfl; have q1 := h0j 1 _ (by decide) rfl; have q2 := h0j 2 _ (by decide) rfl; have q3 := h0j 3 _ (by decide) rfl; have q4 := h0j 4 _ (by decide) rfl; have q5 := h0j 5 _ (by decide) rfl; have q6 := h0j 6 _ (by decide) rfl; have q7 := h0j 7 _ (by decide) rfl; have q8 := h0j 8 _ (by decide) rfl
          have hnear : ∀ t ∈ L' 0, ∀ b, t.v.ownBlock = some b → x.b.ownBlock ≠ some b := by
            intro t ht b hb hxb
            rcases hmem.out t ht with h1 | ⟨y, hy, rfl⟩
            · have h2 := HS0.out t h1 b hb
              have h3 := HNs.out x hxm b hxb
              omega
            · obtain ⟨m, hm, hme⟩ := List.mem_iff_getElem.1 hy
              rw [List.length_take] at hm
              rw [List.getElem_take] at hme
              have hp := HP.out
              rw [List.pairwise_iff_getElem] at hp
              have hix := (List.getElem?_eq_some_iff.1 HX.out)
              have h4 := hp m i (by omega) hix.1 (by omega) b (by rw [hme]; exact hb)
              rw [hix.2] at h4
              exact h4 hxb
          have HAd := Lib.hid (addState_any wj base g G' L' hN'.out (Nat.le_trans HB.out hk.out.size) x (hok.out x hxm) hnear)
          have HXm := Lib.hid hxm
          clear h00 h0j hxs hxm hnear hadb
          go_wp2_with fail
          refine HAd.out.mono ?_
          rintro e w5 ⟨⟨v, rfl⟩, G5, L5, h1, h2, h3⟩
          have H5 := Lib.hid (And.intro h1 (And.intro h2 h3))
          clear h1 h2 h3 HAd q0 q1 q2 q3 q4 q5 q6 q7 q8
          go_wp2_with fail
          go_roundw
          case rel =>
            have hsz := hk.out.size
            have hu5 := Added.up (n0 := n0) H5.out.2.2 (HNs.out x HXm.out)
            refine ⟨⟨i + 1, G5, L5, by go_num, by omega, Lib.hid H5.out.1, Lib.hid ⟨hU.out.1.trans hu5 (Nat.le_refl _) hsz, fun j h0 h14 => ((H5.out.2.2.oth j h0).2).trans (hU.out.2 j h0 h14)⟩, Lib.hid fun t ht => ?_⟩, Lib.hid (hk.out.trans H5.out.2.1 (fun b hb hF => hF.back hU.out.1 hb)), Lib.hid (own_kept hrow.out H5.out.2.1 (hN'.out.not_own hrow.out (by decide) (fun j hj => bel_bty 14 j (by decide) hj))), Lib.hid fun y hy => hN'.out.keep_ok H5.out.2.1 (hok.out y hy)⟩
            rw [take_one HX.out]
            rcases H5.out.2.2.self with e | e
            · rw [e] at ht
              exact (hmem.out t ht).imp id fun ⟨y, hy, e⟩ => ⟨y, List.mem_append_left _ hy, e⟩
            · rw [e] at ht
              rcases List.mem_append.1 ht with ht | ht
              · exact (hmem.out t ht).imp id fun ⟨y, hy, e⟩ => ⟨y, List.mem_append_left _ hy, e⟩
              · exact .inr ⟨x, List.mem_append_right _ (List.mem_singleton.2 rfl), List.mem_singleton.1 ht⟩
          case measure => simp [intOf]; omega
        · have hd3 : decide ((i : Int) < 300) = false := decide_eq_false (by omega)
          go_wp2_with fail
          go_end0
          exact ⟨⟨_, rfl⟩, G', L', hN'.out, hk.out, hU.out.1, hU.out.2⟩
      · have hd2 : decide ((i : Int) < N) = false := decide_eq_false (by omega)
        go_wp2_with fail
        go_end0
        exact ⟨⟨_, rfl⟩, G', L', hN'.out, hk.out, hU.out.1, hU.out.2⟩
  · have hd : decide ((gn : Int) < 300) = false := decide_eq_false (by omega)
    go_wp2_with fail
    have HU : Hid (BagUp n0 W.heap.size G G L L) := Lib.hid (BagUp.refl _ _ _ _)
    have HOF : Hid (∀ j, j ≠ 0 → j ≠ 14 → L j = L j) := Lib.hid fun _ _ _ => rfl
    have HN3 := HH
    have HL0 : Hid (L 0 = L 0) := rfl
    have HR3 := Lib.hid (own_mono HR.out hbn)
    have HO3 : Hid (∀ x ∈ ss, x.ok base W) := Lib.hid fun x hx => (HS.out x hx).mono hbn
    have HK3 : Hid (Kept (BagF g G) W W) := Lib.hid (Kept.refl _ _)
    clear y0
    go_loopw [4] (AdsR W base g n0 G L A N c ss) (fun iv _ => N - (intOf iv).toNat)
    case atStart => exact ⟨⟨0, G, L, rfl, Nat.zero_le _, HN3, Lib.hid ⟨HU.out, HOF.out⟩, Lib.hid fun t ht => (by rw [HL0.out] at ht; exact .inl ht)⟩, HK3, HR3, HO3⟩
    case round =>
      obtain ⟨⟨i, G', L', rfl, hi, hN', hU, hmem⟩, hk, hrow, hok⟩ := hrel
      generalize wr = wj at *
      by_cases hlt2 : i < N
      · have hd2 : decide ((i : Int) < N) = true := decide_eq_true (by omega)
        by_cases h300 : i < 300
        · have hd3 : decide ((i : Int) < 300) = true := decide_eq_true (by omega)
          obtain ⟨ad, x, hA, hadb, hxs, h00, h0j⟩ := rowG_at stL_len (Reads.of_own hrow.out) HL.out hlt2
          subst hA
          have HX := Lib.hid hxs
          have hxm := List.mem_of_getElem? hxs
          have q0 := h00 _ rfl; have q1 := h0j 1 _ (by decide) rfl; have q2 := h0j 2 _ (by decide) rfl; have q3 := h0j 3 _ (by decide) rfl; have q4 := h0j 4 _ (by decide) rfl; have q5 := h0j 5 _ (by decide) rfl; have q6 := h0j 6 _ (by decide) rfl; have q7 := h0j 7 _ (by decide) rfl; have q8 := h0j 8 _ (by decide) rfl
          have hnear : ∀ t ∈ L' 0, ∀ b, t.v.ownBlock = some b → x.b.ownBlock ≠ some b := by
            intro t ht b hb hxb
            rcases hmem.out t ht with h1 | ⟨y, hy, rfl⟩
            · have h2 := HS0.out t h1 b hb
              have h3 := HNs.out x hxm b hxb
              omega
            · obtain ⟨m, hm, hme⟩ := List.mem_iff_getElem.1 hy
              rw [List.length_take] at hm
              rw [List.getElem_take] at hme
              have hp := HP.out
              rw [List.pairwise_iff_getElem] at hp
              have hix := (List.getElem?_eq_some_iff.1 HX.out)
              have h4 := hp m i (by omega) hix.1 (by omega) b (by rw [hme]; exact hb)
              rw [hix.2] at h4
              exact h4 hxb
          have HAd := Lib.hid (addState_any wj base g G' L' hN'.out (Nat.le_trans HB.out hk.out.size) x (hok.out x hxm) hnear)
          have HXm := Lib.hid hxm
          clear h00 h0j hxs hxm hnear hadb
          go_wp2_with fail
          refine HAd.out.mono ?_
          rintro e w5 ⟨⟨v, rfl⟩, G5, L5, h1, h2, h3⟩
          have H5 := Lib.hid (And.intro h1 (And.intro h2 h3))
          clear h1 h2 h3 HAd q0 q1 q2 q3 q4 q5 q6 q7 q8
          go_wp2_with fail
          go_roundw
          case rel =>
            have hsz := hk.out.size
            have hu5 := Added.up (n0 := n0) H5.out.2.2 (HNs.out x HXm.out)
            refine ⟨⟨i + 1, G5, L5, by go_num, by omega, Lib.hid H5.out.1, Lib.hid ⟨hU.out.1.trans hu5 (Nat.le_refl _) hsz, fun j h0 h14 => ((H5.out.2.2.oth j h0).2).trans (hU.out.2 j h0 h14)⟩, Lib.hid fun t ht => ?_⟩, Lib.hid (hk.out.trans H5.out.2.1 (fun b hb hF => hF.back hU.out.1 hb)), Lib.hid (own_kept hrow.out H5.out.2.1 (hN'.out.not_own hrow.out (by decide) (fun j hj => bel_bty 14 j (by decide) hj))), Lib.hid fun y hy => hN'.out.keep_ok H5.out.2.1 (hok.out y hy)⟩
            rw [take_one HX.out]
            rcases H5.out.2.2.self with e | e
            · rw [e] at ht
              exact (hmem.out t ht).imp id fun ⟨y, hy, e⟩ => ⟨y, List.mem_append_left _ hy, e⟩
            · rw [e] at ht
              rcases List.mem_append.1 ht with ht | ht
              · exact (hmem.out t ht).imp id fun ⟨y, hy, e⟩ => ⟨y, List.mem_append_left _ hy, e⟩
              · exact .inr ⟨x, List.mem_append_right _ (List.mem_singleton.2 rfl), List.mem_singleton.1 ht⟩
          case measure => simp [intOf]; omega
        · have hd3 : decide ((i : Int) < 300) = false := decide_eq_false (by omega)
          go_wp2_with fail
          go_end0
          exact ⟨⟨_, rfl⟩, G', L', hN'.out, hk.out, hU.out.1, hU.out.2⟩
      · have hd2 : decide ((i : Int) < N) = false := decide_eq_false (by omega)
        go_wp2_with fail
        go_end0
        exact ⟨⟨_, rfl⟩, G', L', hN'.out, hk.out, hU.out.1, hU.out.2⟩
end Go.Proofs.Ytpncbggjngamgaa
namespace Go.Proofs.Ytpncbggjngamgaa
set_option linter.unusedVariables false
open Go.RowKit

/-- The program's store and the reference's, that hold the same. -/
structure PairS (base : Nat) (w : World) (g bm : Nat) (most : Int) (f : Ky3 → Option OneE) (N gd : Nat) (v : Value) (xs : List OneE) : Prop where
  q : StF w g bm most f N
  own : ∀ k x, f k = some x → x.s.ok base w
  r : RfS base w gd v most xs
  l : Link f xs
  n : N = xs.length
  lim : (N : Int) ≤ most ∧ most ≤ 4096
  hbm : base ≤ bm
  hgd : base ≤ gd
/-- What is written of them. -/
def PairF (bm gd : Nat) (v : Value) (b : Nat) : Prop := b = bm ∨ b = gd ∨ v.ownBlock = some b
section
variable {base : Nat} {w w' : World} {g bm : Nat} {most : Int} {f : Ky3 → Option OneE} {N gd : Nat} {v : Value} {xs : List OneE} {gb bb : Nat} {G : Nat → Sl} {L : Nat → List Sl} {R : Nat → Prop}
theorem PairS.kept (h : PairS base w g bm most f N gd v xs) (k : Kept R w w') (h1 : ¬ R g) (h2 : ¬ R bm) (h3 : ¬ R gd) (h4 : ∀ b, v.ownBlock = some b → ¬ R b) (h5 : ∀ k x, f k = some x → ∀ b, x.s.b.ownBlock = some b → ¬ R b) (h6 : ∀ x ∈ xs, ∀ b, x.s.b.ownBlock = some b → ¬ R b) : PairS base w' g bm most f N gd v xs := by
  have ho : ∀ k x, f k = some x → x.s.ok base w' := fun k' x hx => by
    have h0 := h.own k' x hx
    exact ⟨h0.head, own_kept h0.body k (h5 k' x hx), h0.oct, h0.len⟩
  refine ⟨⟨h.q.blk.kept k h1, h.q.map.kept k h2, fun k' x hx => ⟨(h.q.good k' x hx).1, (ho k' x hx).rd, (h.q.good k' x hx).2.2⟩⟩, ho, ⟨h.r.blk.kept k h3, own_kept h.r.row k h4, fun x hx => ?_⟩, h.l, h.n, h.lim, h.hbm, h.hgd⟩
  have h0 := h.r.own x hx
  exact ⟨⟨h0.1.head, own_kept h0.1.body k (h6 x hx), h0.1.oct, h0.1.len⟩, h0.2⟩
theorem PairS.later (h : PairS base w g bm most f N gd v xs) (hb : Below w.heap.size w w') : PairS base w' g bm most f N gd v xs :=
  h.kept (Kept.of_new hb (fun _ => False)) (fun h => h) (fun h => h) (fun h => h) (fun _ _ h => h) (fun _ _ _ _ _ h => h) (fun _ _ _ _ h => h)
theorem bty_st : ∀ j, j < 19 → bty j ≠ 91 := by decide
theorem bty_rst : ∀ j, j < 19 → bty j ≠ 61 := by decide
theorem bty_one : ∀ j, j < 19 → bty j ≠ 114 := by decide
theorem bel_st : ∀ j, j < 19 → bel j ≠ 91 := by decide
theorem bel_rst : ∀ j, j < 19 → bel j ≠ 61 := by decide
theorem bel_one : ∀ j, j < 19 → bel j ≠ 114 := by decide
theorem bel_state_key : (5 ≠ 91) ∧ (5 ≠ 61) ∧ (5 ≠ 114) := by decide
theorem BagN.not_map {F : Ky3 → Option Value} {n : Nat} (h : BagN w bb gb G L) (hm : MapF keyV w bm F n) : ¬ BagF gb G bm := by
  intro hF
  rcases hF with e | ⟨j, hj, hF⟩
  · obtain ⟨C, hC, _⟩ := h.blk
    exact hm.ne_blk hC e
  · exact own_ne_mapF (h.row j hj) hm bm hF rfl
/-- The stores stand while the bag is written. -/
theorem PairS.bag (h : PairS base w g bm most f N gd v xs) (hb : BagN w bb gb G L) (k : Kept (BagF gb G) w w') : PairS base w' g bm most f N gd v xs :=
  h.kept k (hb.not_blk h.q.blk (by decide) bty_st) (hb.not_map h.q.map) (hb.not_blk h.r.blk (by decide) bty_rst) (hb.not_own h.r.row (by decide) (fun j hj e => bty_one j hj e.symm))
    (fun k' x hx => hb.not_own (h.own k' x hx).body (by decide) (fun j hj => bel_bty 0 j (by decide) hj)) (fun x hx => hb.not_own (h.r.own x hx).1.body (by decide) (fun j hj => bel_bty 0 j (by decide) hj))
/-- The bag stands while the program's map is written. -/
theorem BagN.map {F : Ky3 → Option Value} {n : Nat} (h : BagN w bb gb G L) (hm : MapF keyV w bm F n) (k : Kept (fun b => b = bm) w w') : BagN w' bb gb G L := by
  refine h.kept k (fun e => ?_) (fun j hj b hb => own_ne_mapF (h.row j hj) hm b hb) (fun j hj s hs b hb => ?_)
  · obtain ⟨C, hC, _⟩ := h.blk
    exact hm.ne_blk hC e.symm
  · obtain ⟨ys, hy⟩ := h.has j hj s hs
    exact own_ne_mapF hy hm b hb
/-- The bag stands while the reference's store is written. -/
theorem BagN.ref (h : BagN w bb gb G L) (q : RfS base w gd v most xs) (k : Kept (fun b => b = gd ∨ v.ownBlock = some b) w w') : BagN w' bb gb G L := by
  refine h.kept k (fun e => ?_) (fun j hj b hb e => ?_) (fun j hj s hs b hb e => ?_)
  · obtain ⟨C, hC, _⟩ := h.blk
    rcases e with e | e
    · exact blk_ne hC q.blk (by decide) e
    · exact own_blk_ne q.row hC (by decide) e
  · rcases e with e | e
    · exact own_blk_ne (h.row j hj) q.blk (bty_rst j hj) (e ▸ hb)
    · exact own_ne (h.row j hj) q.row (bty_one j hj) b hb e
  · obtain ⟨ys, hy⟩ := h.has j hj s hs
    rcases e with e | e
    · exact own_blk_ne hy q.blk (bel_rst j hj) (e ▸ hb)
    · exact own_ne hy q.row (bel_one j hj) b hb e
/-- The program's store stands while the reference's is written. -/
theorem StF.ref (h : StF w g bm most f N) (ho : ∀ k x, f k = some x → x.s.ok base w) (q : RfS bb w gd v most xs) (k : Kept (fun b => b = gd ∨ v.ownBlock = some b) w w') : StF w' g bm most f N ∧ ∀ k x, f k = some x → x.s.ok base w' := by
  have ho' : ∀ k x, f k = some x → x.s.ok base w' := fun k' x hx => by
    have h0 := ho k' x hx
    refine ⟨h0.head, own_kept h0.body k (fun b hb e => ?_), h0.oct, h0.len⟩
    rcases e with e | e
    · exact own_blk_ne h0.body q.blk (by decide) (e ▸ hb)
    · exact own_ne h0.body q.row (by decide) b hb e
  refine ⟨⟨h.blk.kept k (fun e => ?_), h.map.kept k (fun e => ?_), fun k' x hx => ⟨(h.good k' x hx).1, (ho' k' x hx).rd, (h.good k' x hx).2.2⟩⟩, ho'⟩
  · rcases e with e | e
    · exact blk_ne h.blk q.blk (by decide) e
    · exact own_blk_ne q.row h.blk (by decide) e
  · rcases e with e | e
    · exact h.map.ne_blk q.blk e
    · exact own_ne_mapF q.row h.map bm e rfl
/-- The reference's store stands while the program's map is written. -/
theorem RfS.map {F : Ky3 → Option Value} {n : Nat} (h : RfS base w gd v most xs) (hm : MapF keyV w bm F n) (k : Kept (fun b => b = bm) w w') : RfS base w' gd v most xs :=
  ⟨h.blk.kept k (fun e => hm.ne_blk h.blk e.symm), own_kept h.row k (fun b hb => own_ne_mapF h.row hm b hb), fun x hx => ⟨⟨(h.own x hx).1.head, own_kept (h.own x hx).1.body k (fun b hb => own_ne_mapF (h.own x hx).1.body hm b hb), (h.own x hx).1.oct, (h.own x hx).1.len⟩, (h.own x hx).2⟩⟩
end
/-- No body of a store lies in the bag's rows of bytes. -/
def Dj (f : Ky3 → Option OneE) (xs : List OneE) (L0 : List Sl) : Prop := ∀ s ∈ L0, ∀ b, s.v.ownBlock = some b → (∀ k x, f k = some x → x.s.b.ownBlock ≠ some b) ∧ ∀ x ∈ xs, x.s.b.ownBlock ≠ some b
/-- Both stores and the bag. -/
structure PB (base : Nat) (w : World) (g bm : Nat) (most : Int) (f : Ky3 → Option OneE) (N gd : Nat) (v : Value) (xs : List OneE) (gb : Nat) (G : Nat → Sl) (L : Nat → List Sl) : Prop where
  p : PairS base w g bm most f N gd v xs
  b : BagN w base gb G L
  dj : Dj f xs (L 0)
  hgb : base ≤ gb
theorem PB.later {base : Nat} {w w' : World} {g bm : Nat} {most : Int} {f : Ky3 → Option OneE} {N gd : Nat} {v : Value} {xs : List OneE} {gb : Nat} {G : Nat → Sl} {L : Nat → List Sl} (h : PB base w g bm most f N gd v xs gb G L) (hb : Below w.heap.size w w') : PB base w' g bm most f N gd v xs gb G L :=
  ⟨h.p.later hb, h.b.later hb, h.dj, h.hgb⟩
theorem PB.base_le {base : Nat} {w : World} {g bm : Nat} {most : Int} {f : Ky3 → Option OneE} {N gd : Nat} {v : Value} {xs : List OneE} {gb : Nat} {G : Nat → Sl} {L : Nat → List Sl} (h : PB base w g bm most f N gd v xs gb G L) : base ≤ w.heap.size := by
  have := h.hgb
  have := h.b.lt
  omega
/-- What a call of both leaves. -/
structure OneR (base : Nat) (w w' : World) (g bm : Nat) (most : Int) (f : Ky3 → Option OneE) (N gd : Nat) (v : Value) (xs : List OneE) (gb : Nat) (G : Nat → Sl) (L : Nat → List Sl) (f' : Ky3 → Option OneE) (N' : Nat) (v' : Value) (xs' : List OneE) (G' : Nat → Sl) (L' : Nat → List Sl) : Prop where
  h : PB base w' g bm most f' N' gd v' xs' gb G' L'
  k : Kept (fun b => PairF bm gd v b ∨ BagF gb G b) w w'
  vb : ∀ b, v'.ownBlock = some b → v.ownBlock = some b ∨ w.heap.size ≤ b
  up : BagUp w.heap.size w.heap.size G G' L L'
def OneP (base : Nat) (w w' : World) (g bm : Nat) (most : Int) (f : Ky3 → Option OneE) (N gd : Nat) (v : Value) (xs : List OneE) (gb : Nat) (G : Nat → Sl) (L : Nat → List Sl) (e : Ending) : Prop :=
  e = .returned (.bool true) ∧ ∃ f' N' v' xs' G' L', OneR base w w' g bm most f N gd v xs gb G L f' N' v' xs' G' L'
section
variable {base : Nat} {w w1 w2 : World} {g bm : Nat} {most : Int} {f : Ky3 → Option OneE} {N gd : Nat} {v : Value} {xs : List OneE} {gb : Nat} {G : Nat → Sl} {L : Nat → List Sl}
theorem PB.lt8 (h : PB base w g bm most f N gd v xs gb G L) : (∀ k x, f k = some x → ∀ b, x.s.b.ownBlock = some b → b < w.heap.size) ∧ (∀ x ∈ xs, ∀ b, x.s.b.ownBlock = some b → b < w.heap.size) ∧ ∀ s ∈ L 0, ∀ b, s.v.ownBlock = some b → b < w.heap.size :=
  ⟨fun k x hx b hb => (own_ge (h.p.own k x hx).body hb).2, fun x hx b hb => (own_ge (h.p.r.own x hx).1.body hb).2, fun s hs b hb => by obtain ⟨ys, hy⟩ := h.b.has 0 (by decide) s hs; exact (own_ge hy hb).2⟩
/-- Nothing was done. -/
theorem PB.same (h : PB base w g bm most f N gd v xs gb G L) (hb : Below w.heap.size w w2) : OneP base w w2 g bm most f N gd v xs gb G L (.returned (.bool true)) :=
  ⟨rfl, f, N, v, xs, G, L, h.later hb, Kept.of_new hb _, fun b hb => .inl hb, BagUp.refl _ _ _ _⟩
end
section
variable {base : Nat} {w w1 w2 : World} {g bm : Nat} {most : Int} {f : Ky3 → Option OneE} {N gd : Nat} {v : Value} {xs : List OneE} {gb : Nat} {G : Nat → Sl} {L : Nat → List Sl} {f' : Ky3 → Option OneE} {N' : Nat} {v' : Value} {xs' : List OneE} {G' : Nat → Sl} {L' : Nat → List Sl}
theorem OneR.later (h : OneR base w w1 g bm most f N gd v xs gb G L f' N' v' xs' G' L') (hb : Below w1.heap.size w1 w2) : OneR base w w2 g bm most f N gd v xs gb G L f' N' v' xs' G' L' :=
  ⟨h.h.later hb, h.k.trans (Kept.of_new hb (fun _ => False)) (fun _ _ e => e.elim), h.vb, h.up⟩
theorem bty_u8 : ∀ j, j < 19 → bty j ≠ 5 := by decide
theorem bel_u8 : ∀ j, j < 19 → j ≠ 0 → bel j ≠ 5 := by decide
/-- The marks on the bytes that were handed in are no matter to the stores. -/
theorem OneR.marked {gi : Nat} {cs : Array Value} (h : OneR base w w1 g bm most f N gd v xs gb G L f' N' v' xs' G' L') (k : Kept (fun b => b = gi) w1 w2) (hB : Blk w1 gi 5 cs)
    (hn : (∀ k x, f' k = some x → ∀ b, x.s.b.ownBlock = some b → b ≠ gi) ∧ (∀ x ∈ xs', ∀ b, x.s.b.ownBlock = some b → b ≠ gi) ∧ ∀ s ∈ L' 0, ∀ b, s.v.ownBlock = some b → b ≠ gi) (hg : w.heap.size ≤ gi) :
    OneR base w w2 g bm most f N gd v xs gb G L f' N' v' xs' G' L' := by
  refine ⟨⟨h.h.p.kept k (blk_ne h.h.p.q.blk hB (by decide)) (h.h.p.q.map.ne_blk hB) (blk_ne h.h.p.r.blk hB (by decide)) (fun b hb e => own_blk_ne h.h.p.r.row hB (by decide) (e ▸ hb)) hn.1 hn.2.1, h.h.b.kept k ?_ (fun j hj b hb e => own_blk_ne (h.h.b.row j hj) hB (bty_u8 j hj) (e ▸ hb)) (fun j hj s hs b hb e => ?_), h.h.dj, h.h.hgb⟩, h.k.trans k (fun b hb e => absurd e (by omega)), h.vb, h.up⟩
  · obtain ⟨C, hC, _⟩ := h.h.b.blk
    exact blk_ne hC hB (by decide)
  · by_cases hj0 : j = 0
    · subst hj0
      exact hn.2.2 s hs b hb e
    · obtain ⟨ys, hy⟩ := h.h.b.has j hj s hs
      exact own_blk_ne hy hB (bel_u8 j hj hj0) (e ▸ hb)
theorem Link.iso {f : Ky3 → Option OneE} {xs : List OneE} (l : Link f xs) (k : Ky3) : (f k).isSome = (rowAt xs k).isSome := by
  cases hr : rowAt xs k with
  | none => rw [l.none_ hr]
  | some x => obtain ⟨z, hz, _⟩ := l.some_ hr; rw [hz]; rfl
end
end Go.Proofs.Ytpncbggjngamgaa
