/-
  All, Heads and Due, walked. Printed by gen_sto7.py.
-/
import Derived.Test.YtpncbggjngamgaaSto6
namespace Go.Proofs.Ytpncbggjngamgaa
set_option linter.unusedVariables false
open Go.RowKit Go.Shelf
attribute [local go_sem] Oper.semAt_some

theorem flat_cong {α β : Type} {l : List α} {f g : α → List β} (h : ∀ x ∈ l, f x = g x) : l.flatMap f = l.flatMap g := by
  rw [List.flatMap_def, List.flatMap_def, List.map_congr_left h]
theorem Gat.cast {T t : TypeId} {size n₀ gb k k' : Nat} {w1 W : World} {xs xs' : List Value} (h : Gat T t size n₀ gb w1 k xs W) (hk : k' = k) (hx : xs' = xs) : Gat T t size n₀ gb w1 k' xs' W := by subst hk; subst hx; exact h
def dueK (f : Ky3 → Option OneE) (now : Int) (ks : List Ky3) : List Ky3 := ks.filter fun k => oldA (hAt f now k).age

set_option maxRecDepth 100000 in
set_option maxHeartbeats 4000000 in
theorem stheads_any (sp : Option Addr) (now : Int) (f : Ky3 → Option OneE) (N : Nat) (w : World) (HE : EachAt (.pointer sp) now f N w) (hN : N ≤ 1048576) :
    Calls Try.prog 11 #[.pointer sp, .int .i64 now] w fun e w' => ∃ v ks, e = .returned v ∧ KsOf f N ks ∧ w'.ownsRow w.heap.size 28 8 v N ((ks.map (hAt f now)).flatMap Hd.cells) ∧ Below w.heap.size w w' := by
  have HEs := Lib.hid HE
  clear HE
  refine (callsIn_wide (n := 6)).1 (callsIn_of_wp_marks Try.func11 rfl trivial ?_ rfl)
  simp only [Try.ntmps11, List.size_toArray, List.length_cons, List.length_nil, Nat.reduceAdd, Nat.reduceSub, Array.replicate_succ, Array.replicate_zero, List.push_toArray, List.append_toArray, List.nil_append, List.cons_append]
  refine wpIn_wide.2 ?_
  go_wp2_with (go_at_call 31; refine (steach_any _ _ _).mono ?_; rintro e w2 ⟨rfl, hw2⟩)
  rw [← hw2]
  have hb2 : Below w.heap.size w w2 := by
    subst hw2
    exact ((below_two w _ _).alloc (by simp; omega) _)
  have hB2 : Blk w2 w.heap.size 38 #[.slice none 0 0] := by
    subst hw2
    exact ((Blk.new w 38 #[.slice none 0 0]).alloc _).alloc _
  have hs2 : w2.cell? ⟨w.heap.size + 1, 0, none⟩ = some (.pointer sp) := by
    subst hw2
    have h := ((Blk.new (w.alloc (.cells #[.slice none 0 0] 38)) 34 #[.pointer sp]).alloc (.cells #[.int .i64 now] 3)).cell 0
    rw [World.size_alloc] at h
    exact h
  have ht2 : w2.cell? ⟨w.heap.size + 1 + 1, 0, none⟩ = some (.int .i64 now) := by
    subst hw2
    have h := (Blk.new ((w.alloc (.cells #[.slice none 0 0] 38)).alloc (.cells #[.pointer sp] 34)) 3 #[.int .i64 now]).cell 0
    rw [World.size_alloc, World.size_alloc] at h
    exact h
  have hsz2 : w2.heap.size = w.heap.size + 3 := by subst hw2; simp
  clear hw2
  have hnp : ∀ blk, ¬ Pts w2 w.heap.size blk := by
    rintro blk ⟨o, n, c, h⟩
    have := hB2.cell 0
    rw [this] at h
    cases h
  have HB2 := Lib.hid hb2
  generalize hs0 : w.heap.size = gb at *
  refine (wpIn_wide (n := 6)).1 ?_
  refine wpIn_rangeFunc_tells (α := Ydd f now) rfl (by decide) (gf := 63) (lb := #[boxV (gb + 1), boxV (gb + 1 + 1)]) rfl trivial (enters_of Try.func63 (by kernel_rfl) rfl)
    (encs := fun x => #[keyV x.1.1, x.1.2.v]) (Kp := KpG gb (fun b => b = gb)) (S := fun ys W => KsOf f N (ys.map (fun p : Ydd f now => p.1.1)) ∧ YsOk w2.heap.size (yS ys) W) (N := N) (w0 := w2)
    (fun l J W hW hJ hY h0 => by
      refine (HEs.out l (gb + 1) (gb + 1 + 1) (fun b => b = gb) w2 W J hJ (by rw [hs0]; exact hY) (by rw [hs0]; exact HB2.out) (fun b hb => by subst hb; exact ⟨by omega, hnp⟩) hW hs2 ht2 (by omega) (by omega) h0).mono ?_
      rintro e W' ⟨h1, ys, ⟨h2, h3⟩, h4⟩
      exact ⟨h1, ys, ⟨h2, h3.ok⟩, h4⟩)
    KpG.t (fun W l o o' hl h hc hw => KpG.b (by omega) W l o o' hl h hc hw (fun b hb => by subst hb; omega)) (Below.refl _ _) (fun _ => rfl)
    (fun pre W => Gat 38 28 8 gb gb w2 ((fun pre : List (Ydd f now) => pre.length) pre) ((fun pre : List (Ydd f now) => pre.flatMap fun p => p.1.2.h.cells) pre) W) (Gat.own (Nat.le_refl _) (by omega))
    (fun s A B row h hg hr => ⟨h.1, ysOk_own _ A B row h.2 hg hr⟩)
    ⟨⟨_, hB2, World.ownsRow_nil _ _ _ _⟩, KpG.new (Below.refl _ _) (by omega) (fun b hb => by subst hb; omega)⟩
    (fun x a' W => ∃ By, Blk W By 31 (stL x.1.2).toArray ∧ a' = { tmps := #[.pointer sp, .int .i64 now, undef, undef, .slice none 0 0, boxV gb, undef, boxV By, .pointer sp, .int .i64 now, .func (.func 63) #[] #[boxV (gb + 1), boxV (gb + 1 + 1)], keyV x.1.1, x.1.2.v, undef, undef, undef, undef, undef, undef], defers := [] })
    (fun x a' s W W' row h hg hr => by
      obtain ⟨By, hB, h9⟩ := h
      exact ⟨By, blk_ownF (β := Unit) () W W' row hB hg hr, h9⟩)
    ?assign ?body ?done
  case assign =>
    intro l pre x W K hI hK
    have hgW : gb < W.heap.size := by obtain ⟨⟨v, hB, _⟩, _⟩ := hI; exact (Array.getElem?_eq_some_iff.1 hB).1
    have hB : Below W.heap.size W (W.alloc (.cells (stC x.1.2.h x.1.2.A x.1.2.n x.1.2.c) 31)) := (Below.refl _ _).alloc (Nat.le_refl _) _
    gi_wp2
    exact hK _ _ (keepsF_below hB) (KpG.new hB (by omega) (fun b hb => by subst hb; omega)) ⟨hI.ex.imp fun v h => ⟨h.1.later hB, own_kept h.2 (Kept.of_new hB (fun _ => False)) (fun _ _ h => h)⟩, hI.kp.t (KpG.new hB (by omega) (fun b hb => by subst hb; omega))⟩ ⟨W.heap.size, Blk.new _ _ _, rfl⟩
  case body =>
    rintro l pre x a' W ⟨⟨v, hB, hrow⟩, hkp⟩ ⟨By, bX, rfl⟩ hlt
    obtain ⟨⟨⟨k1, k2, k3⟩, ⟨hage, hopts, htyp, hid, hadv, hseq, hsum, hlen⟩, sA, sn, sc, sB⟩, hp⟩ : ∃ p, x.1 = p := ⟨_, rfl⟩
    have HP := Lib.hid hp
    rw [hp] at bX ⊢
    clear hp
    dsimp only at hrow
    obtain ⟨vA, vc, rfl, -⟩ := (OwnW.of_own hrow).shape
    have hgW : gb < W.heap.size := (Array.getElem?_eq_some_iff.1 hB).1
    have hgy : gb ≠ By := fun e => by subst e; have h1 := hB.symm.trans bX; injection h1 with h1; injection h1 with h1 h2; exact absurd h2 (by decide)
    have bX' : Blk W By 31 #[.int .u16 hage, .int .u8 hopts, .int .u8 htyp, .int .u32 hid, .int .u32 hadv, .int .i32 hseq, .int .u16 hsum, .int .u16 hlen, .slice sA sn sc] := bX
    have k0 := hB.cell 0
    have j0 := bX'.cell 0; have j1 := bX'.cell 1; have j2 := bX'.cell 2; have j3 := bX'.cell 3; have j4 := bX'.cell 4; have j5 := bX'.cell 5; have j6 := bX'.cell 6; have j7 := bX'.cell 7; have j8 := bX'.cell 8
    simp only [List.getElem?_toArray, List.getElem?_cons_zero, List.getElem?_cons_succ] at k0 j0 j1 j2 j3 j4 j5 j6 j7 j8
    have HB := Lib.hid hB
    have HO := Lib.hid hrow
    have HKP := Lib.hid hkp
    have HBX := Lib.hid bX'
    have HBW : Hid (Below W.heap.size W (W.alloc (.cells #[.int .u16 hage, .int .u8 hopts, .int .u8 htyp, .int .u32 hid, .int .u32 hadv, .int .i32 hseq, .int .u16 hsum, .int .u16 hlen] 28))) := Lib.hid ((Below.refl _ _).alloc (Nat.le_refl _) _)
    have HR := Lib.hid (hrow.alloc (.cells #[.int .u16 hage, .int .u8 hopts, .int .u8 htyp, .int .u32 hid, .int .u32 hadv, .int .i32 hseq, .int .u16 hsum, .int .u16 hlen] 28))
    have HX : Hid (Reads (W.alloc (.cells #[.int .u16 hage, .int .u8 hopts, .int .u8 htyp, .int .u32 hid, .int .u32 hadv, .int .i32 hseq, .int .u16 hsum, .int .u16 hlen] 28)) (W.heap.size + 1) 8 (some ⟨W.heap.size, 0, none⟩) 1 (Hd.cells ⟨hage, hopts, htyp, hid, hadv, hseq, hsum, hlen⟩)) :=
      Lib.hid ⟨rfl, fun _ => ⟨_, rfl, Nat.lt_succ_self _, fun j u hu => by rw [add_none, Nat.zero_add, (Blk.new W 28 #[.int .u16 hage, .int .u8 hopts, .int .u8 htyp, .int .u32 hid, .int .u32 hadv, .int .i32 hseq, .int .u16 hsum, .int .u16 hlen]).cell]; simpa [Hd.cells] using hu⟩⟩
    clear hB hrow hkp bX bX'
    have hkl : pre.length ≤ N := by omega
    gi_wp2_with (first
      | (gi_at_builtin; refine wpListIn_app4 el_head rfl (.tmp 13) (.tmp 16) rfl HR.out rfl HX.out rfl (hd_one _) (by simp only [maxLen]; omega) (by omega) (by rw [World.size_alloc]; omega) ?_; intro v3 w3 ho3 hg3 h43; obtain ⟨A3, c3, rfl, -⟩ := (OwnW.of_own ho3).shape; have HBG := Lib.hid (((HB.out.later HBW.out).grown hg3 (fun e => (OwnW.of_own HO.out).ne_blk HB.out (by decide) e.symm))); have HSt := Lib.hid (And.intro ho3 (And.intro hg3 h43)); have k3 := HBG.out.cell 0; simp only [List.getElem?_toArray, List.getElem?_cons_zero] at k3; have f3 := HBG.out.frozen 0; clear ho3 hg3 h43))
    have hst := gat_step (B := w2.heap.size) HB.out HO.out (by decide) HBW.out HSt.out.2.1 HSt.out.2.2 HSt.out.1 (Nat.le_refl gb) HKP.out HR.out
    refine ⟨hst.1, hst.2.1, ?_⟩
    have h9 := hst.2.2
    exact h9.cast (by rw [List.length_append, List.length_singleton]) (by rw [List.flatMap_append, List.flatMap_singleton, HP.out])
  case done =>
    rintro D ys W hD ⟨hks, hys⟩ hI hK
    have HI := Lib.hid ((Gat.own (T := 38) (t := 28) (size := 8) (w1 := w2) (β := Unit) (k := fun _ => (fun pre : List (Ydd f now) => pre.length) ys) (xs := fun _ => (fun pre : List (Ydd f now) => pre.flatMap fun p => p.1.2.h.cells) ys) (Nat.le_refl gb) (B := w2.heap.size) (by omega)).putObj (s := ()) (.deferred none) hI hD hK rfl)
    have HY := Lib.hid (ysOk_own.putObj (.deferred none) hys hD hK rfl)
    have HKs := Lib.hid hks
    obtain ⟨⟨v, hBv, hov⟩, hkp⟩ := hI
    obtain ⟨A9, c9, rfl, -⟩ := (OwnW.of_own hov).shape
    have k0 := hBv.cell 0
    simp only [List.getElem?_toArray, List.getElem?_cons_zero] at k0
    clear hov hkp hks hys
    go_wp2
    refine ⟨by simp, .inl ⟨_, _, rfl, run_takeDeferred hK, ?_⟩⟩
    refine ⟨_, results_tmp rfl _ _ _, ?_⟩
    have hB9 : Blk (W.putObj D (.deferred none)) gb 38 #[.slice A9 ((fun pre : List (Ydd f now) => pre.length) ys) c9] := (World.putObj_heap_other (by omega)).trans hBv
    obtain ⟨v9, hv9, ho9⟩ := HI.out.ex
    have hvv : v9 = .slice A9 ((fun pre : List (Ydd f now) => pre.length) ys) c9 := by
      have h1 : some (Obj.cells #[v9] 38) = some (Obj.cells #[.slice A9 ((fun pre : List (Ydd f now) => pre.length) ys) c9] 38) := hv9.symm.trans hB9
      injection h1 with h1
      injection h1 with h1
      injection h1 with h1
      injection h1
    subst hvv
    have HBE := Lib.hid (HB2.out.trans HI.out.kp.below)
    have hlen9 : ys.length = N := by have := HKs.out.len; rw [List.length_map] at this; exact this
    refine ⟨_, rfl, _, HKs.out, ?_, HBE.out⟩
    have hflat : (List.map (hAt f now) (ys.map (fun p : Ydd f now => p.1.1))).flatMap Hd.cells = ys.flatMap fun p => p.1.2.h.cells := by
      rw [List.flatMap_map, List.flatMap_map]
      refine flat_cong fun p hp => ?_
      rw [p.h.1]
    rw [hflat]
    dsimp only at ho9
    rw [hlen9] at ho9 ⊢
    exact ho9

set_option maxRecDepth 100000 in
set_option maxHeartbeats 4000000 in
theorem stall_any (sp : Option Addr) (now : Int) (f : Ky3 → Option OneE) (N : Nat) (w : World) (HE : EachAt (.pointer sp) now f N w) (hN : N ≤ 1048576) :
    Calls Try.prog 17 #[.pointer sp, .int .i64 now] w fun e w' => ∃ v, e = .returned v ∧ ∃ ks, KsOf f N ks ∧ ∃ ss, ss.map SE.h = ks.map (hAt f now) ∧ ss.map SE.B = ks.map (bAt f) ∧ YsOk w.heap.size ss w' ∧ w'.ownsRow w.heap.size 31 9 v N (ss.flatMap stL) ∧ Below w.heap.size w w' := by
  have HEs := Lib.hid HE
  clear HE
  refine (callsIn_wide (n := 6)).1 (callsIn_of_wp_marks Try.func17 rfl trivial ?_ rfl)
  simp only [Try.ntmps17, List.size_toArray, List.length_cons, List.length_nil, Nat.reduceAdd, Nat.reduceSub, Array.replicate_succ, Array.replicate_zero, List.push_toArray, List.append_toArray, List.nil_append, List.cons_append]
  refine wpIn_wide.2 ?_
  go_wp2_with (go_at_call 31; refine (steach_any _ _ _).mono ?_; rintro e w2 ⟨rfl, hw2⟩)
  rw [← hw2]
  have hb2 : Below w.heap.size w w2 := by
    subst hw2
    exact ((below_two w _ _).alloc (by simp; omega) _)
  have hB2 : Blk w2 w.heap.size 49 #[.slice none 0 0] := by
    subst hw2
    exact ((Blk.new w 49 #[.slice none 0 0]).alloc _).alloc _
  have hs2 : w2.cell? ⟨w.heap.size + 1, 0, none⟩ = some (.pointer sp) := by
    subst hw2
    have h := ((Blk.new (w.alloc (.cells #[.slice none 0 0] 49)) 34 #[.pointer sp]).alloc (.cells #[.int .i64 now] 3)).cell 0
    rw [World.size_alloc] at h
    exact h
  have ht2 : w2.cell? ⟨w.heap.size + 1 + 1, 0, none⟩ = some (.int .i64 now) := by
    subst hw2
    have h := (Blk.new ((w.alloc (.cells #[.slice none 0 0] 49)).alloc (.cells #[.pointer sp] 34)) 3 #[.int .i64 now]).cell 0
    rw [World.size_alloc, World.size_alloc] at h
    exact h
  have hsz2 : w2.heap.size = w.heap.size + 3 := by subst hw2; simp
  clear hw2
  have hnp : ∀ blk, ¬ Pts w2 w.heap.size blk := by
    rintro blk ⟨o, n, c, h⟩
    have := hB2.cell 0
    rw [this] at h
    cases h
  have HB2 := Lib.hid hb2
  generalize hs0 : w.heap.size = gb at *
  refine (wpIn_wide (n := 6)).1 ?_
  refine wpIn_rangeFunc_tells (α := Ydd f now) rfl (by decide) (gf := 63) (lb := #[boxV (gb + 1), boxV (gb + 1 + 1)]) rfl trivial (enters_of Try.func63 (by kernel_rfl) rfl)
    (encs := fun x => #[keyV x.1.1, x.1.2.v]) (Kp := KpG gb (fun b => b = gb)) (S := fun ys W => KsOf f N (ys.map (fun p : Ydd f now => p.1.1)) ∧ YsOk w2.heap.size (yS ys) W) (N := N) (w0 := w2)
    (fun l J W hW hJ hY h0 => by
      refine (HEs.out l (gb + 1) (gb + 1 + 1) (fun b => b = gb) w2 W J hJ (by rw [hs0]; exact hY) (by rw [hs0]; exact HB2.out) (fun b hb => by subst hb; exact ⟨by omega, hnp⟩) hW hs2 ht2 (by omega) (by omega) h0).mono ?_
      rintro e W' ⟨h1, ys, ⟨h2, h3⟩, h4⟩
      exact ⟨h1, ys, ⟨h2, h3.ok⟩, h4⟩)
    KpG.t (fun W l o o' hl h hc hw => KpG.b (by omega) W l o o' hl h hc hw (fun b hb => by subst hb; omega)) (Below.refl _ _) (fun _ => rfl)
    (fun pre W => Gat 49 31 9 gb gb w2 ((fun pre : List (Ydd f now) => pre.length) pre) ((fun pre : List (Ydd f now) => pre.flatMap fun p => stL p.1.2) pre) W) (Gat.own (Nat.le_refl _) (by omega))
    (fun s A B row h hg hr => ⟨h.1, ysOk_own _ A B row h.2 hg hr⟩)
    ⟨⟨_, hB2, World.ownsRow_nil _ _ _ _⟩, KpG.new (Below.refl _ _) (by omega) (fun b hb => by subst hb; omega)⟩
    (fun x a' W => ∃ By, Blk W By 31 (stL x.1.2).toArray ∧ a' = { tmps := #[.pointer sp, .int .i64 now, undef, undef, .slice none 0 0, boxV gb, undef, boxV By, .pointer sp, .int .i64 now, .func (.func 63) #[] #[boxV (gb + 1), boxV (gb + 1 + 1)], keyV x.1.1, x.1.2.v, undef, undef, undef, undef, undef], defers := [] })
    (fun x a' s W W' row h hg hr => by
      obtain ⟨By, hB, h9⟩ := h
      exact ⟨By, blk_ownF (β := Unit) () W W' row hB hg hr, h9⟩)
    ?assign ?body ?done
  case assign =>
    intro l pre x W K hI hK
    have hgW : gb < W.heap.size := by obtain ⟨⟨v, hB, _⟩, _⟩ := hI; exact (Array.getElem?_eq_some_iff.1 hB).1
    have hB : Below W.heap.size W (W.alloc (.cells (stC x.1.2.h x.1.2.A x.1.2.n x.1.2.c) 31)) := (Below.refl _ _).alloc (Nat.le_refl _) _
    gi_wp2
    exact hK _ _ (keepsF_below hB) (KpG.new hB (by omega) (fun b hb => by subst hb; omega)) ⟨hI.ex.imp fun v h => ⟨h.1.later hB, own_kept h.2 (Kept.of_new hB (fun _ => False)) (fun _ _ h => h)⟩, hI.kp.t (KpG.new hB (by omega) (fun b hb => by subst hb; omega))⟩ ⟨W.heap.size, Blk.new _ _ _, rfl⟩
  case body =>
    rintro l pre x a' W ⟨⟨v, hB, hrow⟩, hkp⟩ ⟨By, bX, rfl⟩ hlt
    obtain ⟨⟨⟨k1, k2, k3⟩, ⟨hage, hopts, htyp, hid, hadv, hseq, hsum, hlen⟩, sA, sn, sc, sB⟩, hp⟩ : ∃ p, x.1 = p := ⟨_, rfl⟩
    have HP := Lib.hid hp
    rw [hp] at bX ⊢
    clear hp
    dsimp only at hrow
    obtain ⟨vA, vc, rfl, -⟩ := (OwnW.of_own hrow).shape
    have hgW : gb < W.heap.size := (Array.getElem?_eq_some_iff.1 hB).1
    have hgy : gb ≠ By := fun e => by subst e; have h1 := hB.symm.trans bX; injection h1 with h1; injection h1 with h1 h2; exact absurd h2 (by decide)
    have bX' : Blk W By 31 #[.int .u16 hage, .int .u8 hopts, .int .u8 htyp, .int .u32 hid, .int .u32 hadv, .int .i32 hseq, .int .u16 hsum, .int .u16 hlen, .slice sA sn sc] := bX
    have k0 := hB.cell 0
    have j0 := bX'.cell 0; have j1 := bX'.cell 1; have j2 := bX'.cell 2; have j3 := bX'.cell 3; have j4 := bX'.cell 4; have j5 := bX'.cell 5; have j6 := bX'.cell 6; have j7 := bX'.cell 7; have j8 := bX'.cell 8
    simp only [List.getElem?_toArray, List.getElem?_cons_zero, List.getElem?_cons_succ] at k0 j0 j1 j2 j3 j4 j5 j6 j7 j8
    have HB := Lib.hid hB
    have HO := Lib.hid hrow
    have HKP := Lib.hid hkp
    have HBX := Lib.hid bX'
    have HBW : Hid (Below W.heap.size W (W.alloc (.cells #[.int .u16 hage, .int .u8 hopts, .int .u8 htyp, .int .u32 hid, .int .u32 hadv, .int .i32 hseq, .int .u16 hsum, .int .u16 hlen, .slice sA sn sc] 31))) := Lib.hid ((Below.refl _ _).alloc (Nat.le_refl _) _)
    have HR := Lib.hid (hrow.alloc (.cells #[.int .u16 hage, .int .u8 hopts, .int .u8 htyp, .int .u32 hid, .int .u32 hadv, .int .i32 hseq, .int .u16 hsum, .int .u16 hlen, .slice sA sn sc] 31))
    have HX : Hid (Reads (W.alloc (.cells #[.int .u16 hage, .int .u8 hopts, .int .u8 htyp, .int .u32 hid, .int .u32 hadv, .int .i32 hseq, .int .u16 hsum, .int .u16 hlen, .slice sA sn sc] 31)) (W.heap.size + 1) 9 (some ⟨W.heap.size, 0, none⟩) 1 (stL ⟨⟨hage, hopts, htyp, hid, hadv, hseq, hsum, hlen⟩, sA, sn, sc, sB⟩)) :=
      Lib.hid ⟨rfl, fun _ => ⟨_, rfl, Nat.lt_succ_self _, fun j u hu => by rw [add_none, Nat.zero_add, (Blk.new W 31 #[.int .u16 hage, .int .u8 hopts, .int .u8 htyp, .int .u32 hid, .int .u32 hadv, .int .i32 hseq, .int .u16 hsum, .int .u16 hlen, .slice sA sn sc]).cell]; simpa [stL] using hu⟩⟩
    clear hB hrow hkp bX bX'
    have hkl : pre.length ≤ N := by omega
    gi_wp2_with (first
      | (gi_at_builtin; refine wpListIn_app4 el_state rfl (.tmp 13) (.tmp 15) rfl HR.out rfl HX.out rfl (stL_one _) (by simp only [maxLen]; omega) (by omega) (by rw [World.size_alloc]; omega) ?_; intro v3 w3 ho3 hg3 h43; obtain ⟨A3, c3, rfl, -⟩ := (OwnW.of_own ho3).shape; have HBG := Lib.hid (((HB.out.later HBW.out).grown hg3 (fun e => (OwnW.of_own HO.out).ne_blk HB.out (by decide) e.symm))); have HSt := Lib.hid (And.intro ho3 (And.intro hg3 h43)); have k3 := HBG.out.cell 0; simp only [List.getElem?_toArray, List.getElem?_cons_zero] at k3; have f3 := HBG.out.frozen 0; clear ho3 hg3 h43))
    have hst := gat_step (B := w2.heap.size) HB.out HO.out (by decide) HBW.out HSt.out.2.1 HSt.out.2.2 HSt.out.1 (Nat.le_refl gb) HKP.out HR.out
    refine ⟨hst.1, hst.2.1, ?_⟩
    have h9 := hst.2.2
    exact h9.cast (by rw [List.length_append, List.length_singleton]) (by rw [List.flatMap_append, List.flatMap_singleton, HP.out])
  case done =>
    rintro D ys W hD ⟨hks, hys⟩ hI hK
    have HI := Lib.hid ((Gat.own (T := 49) (t := 31) (size := 9) (w1 := w2) (β := Unit) (k := fun _ => (fun pre : List (Ydd f now) => pre.length) ys) (xs := fun _ => (fun pre : List (Ydd f now) => pre.flatMap fun p => stL p.1.2) ys) (Nat.le_refl gb) (B := w2.heap.size) (by omega)).putObj (s := ()) (.deferred none) hI hD hK rfl)
    have HY := Lib.hid (ysOk_own.putObj (.deferred none) hys hD hK rfl)
    have HKs := Lib.hid hks
    obtain ⟨⟨v, hBv, hov⟩, hkp⟩ := hI
    obtain ⟨A9, c9, rfl, -⟩ := (OwnW.of_own hov).shape
    have k0 := hBv.cell 0
    simp only [List.getElem?_toArray, List.getElem?_cons_zero] at k0
    clear hov hkp hks hys
    go_wp2
    refine ⟨by simp, .inl ⟨_, _, rfl, run_takeDeferred hK, ?_⟩⟩
    refine ⟨_, results_tmp rfl _ _ _, ?_⟩
    have hB9 : Blk (W.putObj D (.deferred none)) gb 49 #[.slice A9 ((fun pre : List (Ydd f now) => pre.length) ys) c9] := (World.putObj_heap_other (by omega)).trans hBv
    obtain ⟨v9, hv9, ho9⟩ := HI.out.ex
    have hvv : v9 = .slice A9 ((fun pre : List (Ydd f now) => pre.length) ys) c9 := by
      have h1 : some (Obj.cells #[v9] 49) = some (Obj.cells #[.slice A9 ((fun pre : List (Ydd f now) => pre.length) ys) c9] 49) := hv9.symm.trans hB9
      injection h1 with h1
      injection h1 with h1
      injection h1 with h1
      injection h1
    subst hvv
    have HBE := Lib.hid (HB2.out.trans HI.out.kp.below)
    have hlen9 : ys.length = N := by have := HKs.out.len; rw [List.length_map] at this; exact this
    have hflat : (yS ys).flatMap stL = ys.flatMap fun p => stL p.1.2 := by unfold yS; rw [List.flatMap_map]
    refine ⟨_, rfl, _, HKs.out, yS ys, ?_, ?_, HY.out.mono (by omega), ?_, HBE.out⟩
    · unfold yS; rw [List.map_map, List.map_map]; exact List.map_congr_left fun p _ => p.h.1
    · unfold yS; rw [List.map_map, List.map_map]; exact List.map_congr_left fun p _ => p.h.2.1
    · rw [hflat]
      dsimp only at ho9
      rw [hlen9] at ho9 ⊢
      exact ho9

set_option maxRecDepth 100000 in
set_option maxHeartbeats 4000000 in
theorem stdue_any (sp : Option Addr) (now : Int) (f : Ky3 → Option OneE) (N : Nat) (w : World) (HE : EachAt (.pointer sp) now f N w) (hN : N ≤ 1048576) :
    Calls Try.prog 10 #[.pointer sp, .int .i64 now] w fun e w' => ∃ v, e = .returned v ∧ ∃ ks, KsOf f N ks ∧ w'.ownsRow w.heap.size 45 3 v (dueK f now ks).length ((dueK f now ks).flatMap keyC) ∧ Below w.heap.size w w' := by
  have HEs := Lib.hid HE
  clear HE
  refine (callsIn_wide (n := 6)).1 (callsIn_of_wp_marks Try.func10 rfl trivial ?_ rfl)
  simp only [Try.ntmps10, List.size_toArray, List.length_cons, List.length_nil, Nat.reduceAdd, Nat.reduceSub, Array.replicate_succ, Array.replicate_zero, List.push_toArray, List.append_toArray, List.nil_append, List.cons_append]
  refine wpIn_wide.2 ?_
  go_wp2_with (go_at_call 31; refine (steach_any _ _ _).mono ?_; rintro e w2 ⟨rfl, hw2⟩)
  rw [← hw2]
  have hb2 : Below w.heap.size w w2 := by
    subst hw2
    exact ((below_two w _ _).alloc (by simp; omega) _)
  have hB2 : Blk w2 w.heap.size 36 #[.slice none 0 0] := by
    subst hw2
    exact ((Blk.new w 36 #[.slice none 0 0]).alloc _).alloc _
  have hs2 : w2.cell? ⟨w.heap.size + 1, 0, none⟩ = some (.pointer sp) := by
    subst hw2
    have h := ((Blk.new (w.alloc (.cells #[.slice none 0 0] 36)) 34 #[.pointer sp]).alloc (.cells #[.int .i64 now] 3)).cell 0
    rw [World.size_alloc] at h
    exact h
  have ht2 : w2.cell? ⟨w.heap.size + 1 + 1, 0, none⟩ = some (.int .i64 now) := by
    subst hw2
    have h := (Blk.new ((w.alloc (.cells #[.slice none 0 0] 36)).alloc (.cells #[.pointer sp] 34)) 3 #[.int .i64 now]).cell 0
    rw [World.size_alloc, World.size_alloc] at h
    exact h
  have hsz2 : w2.heap.size = w.heap.size + 3 := by subst hw2; simp
  clear hw2
  have hnp : ∀ blk, ¬ Pts w2 w.heap.size blk := by
    rintro blk ⟨o, n, c, h⟩
    have := hB2.cell 0
    rw [this] at h
    cases h
  have HB2 := Lib.hid hb2
  generalize hs0 : w.heap.size = gb at *
  refine (wpIn_wide (n := 6)).1 ?_
  refine wpIn_rangeFunc_tells (α := Ydd f now) rfl (by decide) (gf := 63) (lb := #[boxV (gb + 1), boxV (gb + 1 + 1)]) rfl trivial (enters_of Try.func63 (by kernel_rfl) rfl)
    (encs := fun x => #[keyV x.1.1, x.1.2.v]) (Kp := KpG gb (fun b => b = gb)) (S := fun ys W => KsOf f N (ys.map (fun p : Ydd f now => p.1.1)) ∧ YsOk w2.heap.size (yS ys) W) (N := N) (w0 := w2)
    (fun l J W hW hJ hY h0 => by
      refine (HEs.out l (gb + 1) (gb + 1 + 1) (fun b => b = gb) w2 W J hJ (by rw [hs0]; exact hY) (by rw [hs0]; exact HB2.out) (fun b hb => by subst hb; exact ⟨by omega, hnp⟩) hW hs2 ht2 (by omega) (by omega) h0).mono ?_
      rintro e W' ⟨h1, ys, ⟨h2, h3⟩, h4⟩
      exact ⟨h1, ys, ⟨h2, h3.ok⟩, h4⟩)
    KpG.t (fun W l o o' hl h hc hw => KpG.b (by omega) W l o o' hl h hc hw (fun b hb => by subst hb; omega)) (Below.refl _ _) (fun _ => rfl)
    (fun pre W => Gat 36 45 3 gb gb w2 ((fun pre : List (Ydd f now) => (pre.filter (fun p : Ydd f now => oldA p.1.2.h.age)).length) pre) ((fun pre : List (Ydd f now) => (pre.filter (fun p : Ydd f now => oldA p.1.2.h.age)).flatMap fun p => keyC p.1.1) pre) W) (Gat.own (Nat.le_refl _) (by omega))
    (fun s A B row h hg hr => ⟨h.1, ysOk_own _ A B row h.2 hg hr⟩)
    ⟨⟨_, hB2, World.ownsRow_nil _ _ _ _⟩, KpG.new (Below.refl _ _) (by omega) (fun b hb => by subst hb; omega)⟩
    (fun x a' W => ∃ Bx By, Blk W Bx 45 (keyC x.1.1).toArray ∧ Blk W By 31 (stL x.1.2).toArray ∧ a' = { tmps := #[.pointer sp, .int .i64 now, undef, undef, .slice none 0 0, boxV gb, boxV Bx, boxV By, .pointer sp, .int .i64 now, .func (.func 63) #[] #[boxV (gb + 1), boxV (gb + 1 + 1)], keyV x.1.1, x.1.2.v, undef, undef, undef, undef, undef, undef, undef, undef, undef], defers := [] })
    (fun x a' s W W' row h hg hr => by
      obtain ⟨Bx, By, hA, hB, h9⟩ := h
      exact ⟨Bx, By, blk_ownF (β := Unit) () W W' row hA hg hr, blk_ownF (β := Unit) () W W' row hB hg hr, h9⟩)
    ?assign ?body ?done
  case assign =>
    intro l pre x W K hI hK
    have hgW : gb < W.heap.size := by obtain ⟨⟨v, hB, _⟩, _⟩ := hI; exact (Array.getElem?_eq_some_iff.1 hB).1
    have hB : Below W.heap.size W ((W.alloc (.cells #[.int .u8 x.1.1.1, .int .u32 x.1.1.2.1, .int .u32 x.1.1.2.2] 45)).alloc (.cells (stC x.1.2.h x.1.2.A x.1.2.n x.1.2.c) 31)) := below_two _ _ _
    gi_wp2
    exact hK _ _ (keepsF_below hB) (KpG.new hB (by omega) (fun b hb => by subst hb; omega)) ⟨hI.ex.imp fun v h => ⟨h.1.later hB, own_kept h.2 (Kept.of_new hB (fun _ => False)) (fun _ _ h => h)⟩, hI.kp.t (KpG.new hB (by omega) (fun b hb => by subst hb; omega))⟩ ⟨W.heap.size, W.heap.size + 1, (Blk.new W 45 _).alloc _, new_at _ _ _, rfl⟩
  case body =>
    rintro l pre x a' W ⟨⟨v, hB, hrow⟩, hkp⟩ ⟨Bx, By, bK, bX, rfl⟩ hlt
    obtain ⟨⟨⟨k1, k2, k3⟩, ⟨hage, hopts, htyp, hid, hadv, hseq, hsum, hlen⟩, sA, sn, sc, sB⟩, hp⟩ : ∃ p, x.1 = p := ⟨_, rfl⟩
    have HP := Lib.hid hp
    have hok := x.h.2.2
    rw [hp] at bX bK hok ⊢
    have HA := hok.age
    clear hok
    have bK' : Blk W Bx 45 #[.int .u8 k1, .int .u32 k2, .int .u32 k3] := bK
    have hd : 1 ≤ 6 - 1 - 1 := by omega
    clear hp
    dsimp only at hrow
    obtain ⟨vA, vc, rfl, -⟩ := (OwnW.of_own hrow).shape
    have hgW : gb < W.heap.size := (Array.getElem?_eq_some_iff.1 hB).1
    have hgy : gb ≠ By := fun e => by subst e; have h1 := hB.symm.trans bX; injection h1 with h1; injection h1 with h1 h2; exact absurd h2 (by decide)
    have bX' : Blk W By 31 #[.int .u16 hage, .int .u8 hopts, .int .u8 htyp, .int .u32 hid, .int .u32 hadv, .int .i32 hseq, .int .u16 hsum, .int .u16 hlen, .slice sA sn sc] := bX
    have k0 := hB.cell 0
    have j0 := bX'.cell 0; have j1 := bX'.cell 1; have j2 := bX'.cell 2; have j3 := bX'.cell 3; have j4 := bX'.cell 4; have j5 := bX'.cell 5; have j6 := bX'.cell 6; have j7 := bX'.cell 7; have j8 := bX'.cell 8; have m0 := bK'.cell 0; have m1 := bK'.cell 1; have m2 := bK'.cell 2
    simp only [List.getElem?_toArray, List.getElem?_cons_zero, List.getElem?_cons_succ] at k0 j0 j1 j2 j3 j4 j5 j6 j7 j8 m0 m1 m2
    have HB := Lib.hid hB
    have HO := Lib.hid hrow
    have HKP := Lib.hid hkp
    have HBX := Lib.hid bX'
    have HBK := Lib.hid bK'
    have HBW : Hid (Below W.heap.size W (W.alloc (.cells #[.int .u8 k1, .int .u32 k2, .int .u32 k3] 45))) := Lib.hid ((Below.refl _ _).alloc (Nat.le_refl _) _)
    have HR := Lib.hid (hrow.alloc (.cells #[.int .u8 k1, .int .u32 k2, .int .u32 k3] 45))
    have HX : Hid (Reads (W.alloc (.cells #[.int .u8 k1, .int .u32 k2, .int .u32 k3] 45)) (W.heap.size + 1) 3 (some ⟨W.heap.size, 0, none⟩) 1 (keyC (k1, k2, k3))) :=
      Lib.hid ⟨rfl, fun _ => ⟨_, rfl, Nat.lt_succ_self _, fun j u hu => by rw [add_none, Nat.zero_add, (Blk.new W 45 #[.int .u8 k1, .int .u32 k2, .int .u32 k3]).cell]; simpa [keyC] using hu⟩⟩
    clear hB hrow hkp bX bX' bK bK'
    have hkl : (pre.filter (fun p : Ydd f now => oldA p.1.2.h.age)).length ≤ N := by exact Nat.le_of_lt (Nat.lt_of_le_of_lt (List.length_filter_le _ _) hlt)
    cases ho : (yearsOf hage == 3600)
    · gi_wp2_with (refine ⟨trivial, ?_⟩; gi_at_call 32; refine (CallsIn.inRound l (callsIn_wide.2 (old_any hage _ HA.1 HA.2))).mono ?_; rintro e w' ⟨rfl, rfl⟩)
      have hf : (pre ++ [x]).filter (fun p : Ydd f now => oldA p.1.2.h.age) = pre.filter (fun p : Ydd f now => oldA p.1.2.h.age) := by rw [List.filter_append, List.filter_cons_of_neg (by show ¬ oldA x.1.2.h.age = true; rw [HP.out]; unfold oldA; simp only; rw [ho]; decide)]; simp
      refine ⟨KeepsFrom.refl _ _, KpG.new (Below.refl _ _) (by omega) (fun b hb => by subst hb; omega), ?_⟩
      exact Gat.cast ⟨⟨_, HB.out, HO.out⟩, HKP.out⟩ (congrArg List.length hf) (congrArg (fun l : List (Ydd f now) => l.flatMap fun p => keyC p.1.1) hf)
    · gi_wp2_with (first
        | (refine ⟨trivial, ?_⟩; gi_at_call 32; refine (CallsIn.inRound l (callsIn_wide.2 (old_any hage _ HA.1 HA.2))).mono ?_; rintro e w' ⟨rfl, rfl⟩)
        | (gi_at_builtin; refine wpListIn_app4 el_keyC rfl (.tmp 17) (.tmp 19) rfl HR.out rfl HX.out rfl (keyC_one _) (by simp only [maxLen]; omega) (by omega) (by rw [World.size_alloc]; omega) ?_; intro v3 w3 ho3 hg3 h43; obtain ⟨A3, c3, rfl, -⟩ := (OwnW.of_own ho3).shape; have HBG := Lib.hid (((HB.out.later HBW.out).grown hg3 (fun e => (OwnW.of_own HO.out).ne_blk HB.out (by decide) e.symm))); have HSt := Lib.hid (And.intro ho3 (And.intro hg3 h43)); have k3 := HBG.out.cell 0; simp only [List.getElem?_toArray, List.getElem?_cons_zero] at k3; have f3 := HBG.out.frozen 0; clear ho3 hg3 h43))
      have hf : (pre ++ [x]).filter (fun p : Ydd f now => oldA p.1.2.h.age) = pre.filter (fun p : Ydd f now => oldA p.1.2.h.age) ++ [x] := by rw [List.filter_append, List.filter_cons_of_pos (by show oldA x.1.2.h.age = true; rw [HP.out]; exact ho)]; simp
      have hst := gat_step (B := w2.heap.size) HB.out HO.out (by decide) HBW.out HSt.out.2.1 HSt.out.2.2 HSt.out.1 (Nat.le_refl gb) HKP.out HR.out
      refine ⟨hst.1, hst.2.1, ?_⟩
      have h9 := hst.2.2
      exact h9.cast ((congrArg List.length hf).trans (by rw [List.length_append, List.length_singleton])) ((congrArg (fun l : List (Ydd f now) => l.flatMap fun p => keyC p.1.1) hf).trans (List.flatMap_append.trans (by rw [List.flatMap_singleton, HP.out])))
  case done =>
    rintro D ys W hD ⟨hks, hys⟩ hI hK
    have HI := Lib.hid ((Gat.own (T := 36) (t := 45) (size := 3) (w1 := w2) (β := Unit) (k := fun _ => (fun pre : List (Ydd f now) => (pre.filter (fun p : Ydd f now => oldA p.1.2.h.age)).length) ys) (xs := fun _ => (fun pre : List (Ydd f now) => (pre.filter (fun p : Ydd f now => oldA p.1.2.h.age)).flatMap fun p => keyC p.1.1) ys) (Nat.le_refl gb) (B := w2.heap.size) (by omega)).putObj (s := ()) (.deferred none) hI hD hK rfl)
    have HY := Lib.hid (ysOk_own.putObj (.deferred none) hys hD hK rfl)
    have HKs := Lib.hid hks
    obtain ⟨⟨v, hBv, hov⟩, hkp⟩ := hI
    obtain ⟨A9, c9, rfl, -⟩ := (OwnW.of_own hov).shape
    have k0 := hBv.cell 0
    simp only [List.getElem?_toArray, List.getElem?_cons_zero] at k0
    clear hov hkp hks hys
    go_wp2
    refine ⟨by simp, .inl ⟨_, _, rfl, run_takeDeferred hK, ?_⟩⟩
    refine ⟨_, results_tmp rfl _ _ _, ?_⟩
    have hB9 : Blk (W.putObj D (.deferred none)) gb 36 #[.slice A9 ((fun pre : List (Ydd f now) => (pre.filter (fun p : Ydd f now => oldA p.1.2.h.age)).length) ys) c9] := (World.putObj_heap_other (by omega)).trans hBv
    obtain ⟨v9, hv9, ho9⟩ := HI.out.ex
    have hvv : v9 = .slice A9 ((fun pre : List (Ydd f now) => (pre.filter (fun p : Ydd f now => oldA p.1.2.h.age)).length) ys) c9 := by
      have h1 : some (Obj.cells #[v9] 36) = some (Obj.cells #[.slice A9 ((fun pre : List (Ydd f now) => (pre.filter (fun p : Ydd f now => oldA p.1.2.h.age)).length) ys) c9] 36) := hv9.symm.trans hB9
      injection h1 with h1
      injection h1 with h1
      injection h1 with h1
      injection h1
    subst hvv
    have HBE := Lib.hid (HB2.out.trans HI.out.kp.below)
    have hd9 : dueK f now (ys.map (fun p : Ydd f now => p.1.1)) = (ys.filter (fun p : Ydd f now => oldA p.1.2.h.age)).map (fun p : Ydd f now => p.1.1) := by
      unfold dueK
      rw [List.filter_map]
      congr 1
      refine List.filter_congr fun p _ => ?_
      show oldA (hAt f now p.1.1).age = oldA p.1.2.h.age
      rw [p.h.1]
    refine ⟨_, rfl, _, HKs.out, ?_, HBE.out⟩
    rw [hd9, List.length_map, List.flatMap_map]
    exact ho9
end Go.Proofs.Ytpncbggjngamgaa
