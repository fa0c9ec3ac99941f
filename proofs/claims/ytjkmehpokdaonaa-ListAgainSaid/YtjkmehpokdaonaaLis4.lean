/-
  (*spread.List).Add, of any list.
-/
import Derived.Test.YtjkmehpokdaonaaLis3
namespace Go.Proofs.Ytjkmehpokdaonaa
set_option linter.unusedVariables false
open Go.RowKit

theorem el_key1 : ∀ (k : Int × Int × Int), ∀ u ∈ kc k, u.oneCell' = true := by
  intro k u hu
  simp only [kc, List.mem_cons, List.not_mem_nil, or_false] at hu
  rcases hu with rfl | rfl | rfl <;> rfl
theorem OwnW.ne_own {w : World} {e e' : TypeId} {size size' n n' i : Nat} {v v' : Value} {xs xs' : List Value} (h : OwnW w e size v n xs) (h' : OwnW w e' size' v' n' xs') (hne : e ≠ e') (hi : v.ownBlock = some i) : v'.ownBlock ≠ some i := by
  rcases h.2 with ⟨rfl, _⟩ | ⟨g, cap, cur, rfl, hh, _⟩
  · simp [Value.ownBlock] at hi
  · have : g = i := by simpa [Value.ownBlock] using hi
    subst this
    exact h'.ne_blk hh (fun e => hne e.symm)
theorem SE.rd.kept2 {R : Nat → Prop} {w w' : World} {s : SE} (h : s.rd w) (k : Kept R w w') (hn : 0 < s.n → ∀ ad, s.A = some ad → ¬ R ad.block) : s.rd w' := ⟨h.head, h.body.keptUp k hn, h.cap, h.len⟩
theorem dropL_not (L : List SE) (k : Int × Int × Int) : ∀ s ∈ dropL L k, s.key ≠ k := by
  intro s hs
  unfold dropL at hs
  have := (List.mem_filter.1 hs).2
  simpa using this
set_option maxRecDepth 100000 in
set_option maxHeartbeats 8000000 in
theorem add_any (w : World) (F : Nat → Prop) (g bm : Nat) (r t : Int) (L : List SE) (s : SE) (l : LF w F g bm r t L) (hs : s.rd w) (hsF : ∀ ad, s.A = some ad → ¬ F ad.block) (hfew : L.length < 1000000) :
    Calls Try.prog 15 #[.pointer (some ⟨g, 0, none⟩), s.v] w fun e w' => e = .returned (.tuple #[]) ∧ ∃ F' s', LF w' F' g bm r (if L = [] then r else t) (dropL L s.key ++ [s']) ∧ s'.h = s.h ∧ s'.B = s.B ∧ s'.n = s.n ∧ Grew w F F' ∧ Kept F w w' := by
  have hm : w.cell? ⟨g, 3, none⟩ = some (.map (some bm)) := l.map_cell
  have hg := l.lt
  have HN := Lib.hid (fun (W : World) (h : W.cell? ⟨g, 3, none⟩ = some (.map (some bm))) => none_any W g bm h)
  obtain ⟨kv, hB, hO, hF⟩ := l.ex
  obtain ⟨Ak, ck, rfl, hnk, hck, -, -⟩ := hO.shape
  have h0 : w.cell? ⟨g, 0, none⟩ = some (.int .u32 r) := hB.cell 0
  have h1 : w.cell? ⟨g, 1, none⟩ = some (.int .u32 t) := hB.cell 1
  have h2 : w.cell? ⟨g, 2, none⟩ = some (.slice Ak L.length ck) := hB.cell 2
  have f1 := hB.frozen 1
  have HL := Lib.hid l
  have HB := Lib.hid hB
  have HR := Lib.hid hs
  obtain ⟨h, A, n, c, B⟩ := s
  have hFs : Hid (∀ ad, A = some ad → ¬ F ad.block) := Lib.hid hsF
  have hne := Lib.hid (l.map.ne_blk hB)
  have hBO := Lib.hid (OwnW.ne_blk hO hB (by decide))
  have F0lim := Lib.hid l.lim
  have HF0g := Lib.hid l.fg
  have HF0b := Lib.hid l.fb
  have HAlt : Hid (0 < n → ∀ ad, A = some ad → ad.block < w.heap.size) := Lib.hid (fun h0 ad e => by obtain ⟨ad', e', hb', _⟩ := hs.body.2 h0; rw [show ({ h := h, A := A, n := n, c := c, B := B } : SE).A = A from rfl, e] at e'; injection e' with e'; exact e' ▸ hb')
  clear l hB hO hF hs hsF
  show Calls Try.prog 15 #[.pointer (some ⟨g, 0, none⟩), stV h A n c] w fun e w' => e = .returned (.tuple #[]) ∧ ∃ F' s', LF w' F' g bm r (if L = [] then r else t) (dropL L h.key ++ [s']) ∧ s'.h = h ∧ s'.B = B ∧ s'.n = n ∧ Grew w F F' ∧ Kept F w w'
  obtain ⟨gs, hgs⟩ : ∃ gs, w.heap.size = gs := ⟨_, rfl⟩
  have HG := Lib.hid hgs
  clear hgs
  have key : ∃ w1 : World, True := ⟨w, trivial⟩
  clear key
  by_cases hL : L = []
  case' pos =>
    rw [if_pos hL]
    have hl0 : ((L.length : Int) == 0) = true := by rw [hL]; rfl
    go_enter Try.func15, Try.ntmps15
    go_wp2_with (go_at_call 36; refine (HN.out _ (by rw [World.cell?_alloc_lt _ _ _ hg]; exact hm)).mono ?_; rintro e w' ⟨rfl, rfl⟩)
    have F1 : Hid (Blk ((w.setCell ⟨g, 1, none⟩ (.int .u32 r)).alloc (.cells #[.int .u16 h.age, .int .u8 h.opts, .int .u8 h.typ, .int .u32 h.id, .int .u32 h.adv, .int .i32 h.seq, .int .u16 h.sum, .int .u16 h.len, .slice A n c] 44)) w.heap.size 44 #[.int .u16 h.age, .int .u8 h.opts, .int .u8 h.typ, .int .u32 h.id, .int .u32 h.adv, .int .i32 h.seq, .int .u16 h.sum, .int .u16 h.len, .slice A n c] ∧ LF ((w.setCell ⟨g, 1, none⟩ (.int .u32 r)).alloc (.cells #[.int .u16 h.age, .int .u8 h.opts, .int .u8 h.typ, .int .u32 h.id, .int .u32 h.adv, .int .i32 h.seq, .int .u16 h.sum, .int .u16 h.len, .slice A n c] 44)) F g bm r r L ∧
        Kept F w ((w.setCell ⟨g, 1, none⟩ (.int .u32 r)).alloc (.cells #[.int .u16 h.age, .int .u8 h.opts, .int .u8 h.typ, .int .u32 h.id, .int .u32 h.adv, .int .i32 h.seq, .int .u16 h.sum, .int .u16 h.len, .slice A n c] 44)) ∧ SE.rd ((w.setCell ⟨g, 1, none⟩ (.int .u32 r)).alloc (.cells #[.int .u16 h.age, .int .u8 h.opts, .int .u8 h.typ, .int .u32 h.id, .int .u32 h.adv, .int .i32 h.seq, .int .u16 h.sum, .int .u16 h.len, .slice A n c] 44)) ⟨h, A, n, c, B⟩) := by
      have hsz : (w.setCell ⟨g, 1, none⟩ (.int .u32 r)).heap.size = w.heap.size := by simp [World.setCell]
      have hk := (kept_setC w g 1 (.int .u32 r)).alloc (.cells #[.int .u16 h.age, .int .u8 h.opts, .int .u8 h.typ, .int .u32 h.id, .int .u32 h.adv, .int .i32 h.seq, .int .u16 h.sum, .int .u16 h.len, .slice A n c] 44)
      have hkF := hk.mono (fun i _ (hi : i = g) => (show F i from hi ▸ HL.out.fg))
      obtain ⟨kv, q1, q2, q3⟩ := HL.out.ex
      refine Lib.hid ⟨?_, ⟨⟨kv, ?_, q2.kept hk (fun i hi e => q2.ne_blk q1 (by decide) (e ▸ hi)), q3⟩, HL.out.map.kept hk hne.out, HL.out.fg, HL.out.fb, fun s hs => absurd hs (by rw [hL]; simp), fun s hs => absurd hs (by rw [hL]; simp), HL.out.nodup, HL.out.few, fun i hi => Nat.lt_of_lt_of_le (HL.out.lim i hi) hk.size⟩, hkF, HR.out.kept hkF hFs.out⟩
      · have := Blk.new (w.setCell ⟨g, 1, none⟩ (.int .u32 r)) 44 #[.int .u16 h.age, .int .u8 h.opts, .int .u8 h.typ, .int .u32 h.id, .int .u32 h.adv, .int .i32 h.seq, .int .u16 h.sum, .int .u16 h.len, .slice A n c]
        rw [hsz] at this
        exact this
      · have := (q1.set_ 1 (.int .u32 r)).alloc (.cells #[.int .u16 h.age, .int .u8 h.opts, .int .u8 h.typ, .int .u32 h.id, .int .u32 h.adv, .int .i32 h.seq, .int .u16 h.sum, .int .u16 h.len, .slice A n c] 44)
        exact this
    clear hl0
    generalize (w.setCell ⟨g, 1, none⟩ (.int .u32 r)).alloc (.cells #[.int .u16 h.age, .int .u8 h.opts, .int .u8 h.typ, .int .u32 h.id, .int .u32 h.adv, .int .i32 h.seq, .int .u16 h.sum, .int .u16 h.len, .slice A n c] 44) = w1 at *
  case' neg =>
    rw [if_neg hL]
    have hl0 : ((L.length : Int) == 0) = false := by
      rw [beq_eq_false_iff_ne]
      have : 0 < L.length := List.length_pos_iff.2 hL
      omega
    go_enter Try.func15, Try.ntmps15
    go_wp2_with (go_at_call 36; refine (HN.out _ (by rw [World.cell?_alloc_lt _ _ _ hg]; exact hm)).mono ?_; rintro e w' ⟨rfl, rfl⟩)
    have hbn : Below w.heap.size w (w.alloc (.cells #[.int .u16 h.age, .int .u8 h.opts, .int .u8 h.typ, .int .u32 h.id, .int .u32 h.adv, .int .i32 h.seq, .int .u16 h.sum, .int .u16 h.len, .slice A n c] 44)) := (Below.refl _ _).alloc (Nat.le_refl _) _
    have F1 : Hid (Blk (w.alloc (.cells #[.int .u16 h.age, .int .u8 h.opts, .int .u8 h.typ, .int .u32 h.id, .int .u32 h.adv, .int .i32 h.seq, .int .u16 h.sum, .int .u16 h.len, .slice A n c] 44)) w.heap.size 44 #[.int .u16 h.age, .int .u8 h.opts, .int .u8 h.typ, .int .u32 h.id, .int .u32 h.adv, .int .i32 h.seq, .int .u16 h.sum, .int .u16 h.len, .slice A n c] ∧ LF (w.alloc (.cells #[.int .u16 h.age, .int .u8 h.opts, .int .u8 h.typ, .int .u32 h.id, .int .u32 h.adv, .int .i32 h.seq, .int .u16 h.sum, .int .u16 h.len, .slice A n c] 44)) F g bm r t L ∧ Kept F w (w.alloc (.cells #[.int .u16 h.age, .int .u8 h.opts, .int .u8 h.typ, .int .u32 h.id, .int .u32 h.adv, .int .i32 h.seq, .int .u16 h.sum, .int .u16 h.len, .slice A n c] 44)) ∧ SE.rd (w.alloc (.cells #[.int .u16 h.age, .int .u8 h.opts, .int .u8 h.typ, .int .u32 h.id, .int .u32 h.adv, .int .i32 h.seq, .int .u16 h.sum, .int .u16 h.len, .slice A n c] 44)) ⟨h, A, n, c, B⟩) := Lib.hid ⟨Blk.new _ _ _, HL.out.later hbn, Kept.of_new hbn _, HR.out.later hbn⟩
    clear hl0 hbn
    generalize w.alloc (.cells #[.int .u16 h.age, .int .u8 h.opts, .int .u8 h.typ, .int .u32 h.id, .int .u32 h.adv, .int .i32 h.seq, .int .u16 h.sum, .int .u16 h.len, .slice A n c] 44) = w1 at *
  all_goals
    rw [HG.out] at F1 ⊢
    clear hm h2 h1 h0 f1 hg HN HL HB hnk hck HR hBO hL
    refine (key_any h w1).mono ?_
    rintro e w2 ⟨rfl, hb2⟩
    have F2 := Lib.hid (And.intro (F1.out.1.later hb2) (And.intro (F1.out.2.1.later hb2) (And.intro (F1.out.2.2.1.trans (Kept.of_new hb2 F) (fun _ _ h => h)) (F1.out.2.2.2.later hb2))))
    clear F1 hb2
    go_wp2_with fail
    refine (drop_any w2 F g bm r _ L h.key F2.out.2.1).mono ?_
    rintro e w3 ⟨rfl, F', hl3, hgr, hk3⟩
    have hgsF : ¬ F gs := fun e => by
      have h1 := F0lim.out gs e
      rw [← HG.out] at h1
      exact Nat.lt_irrefl _ h1
    have F3 : Hid (Blk w3.drew gs 44 #[.int .u16 h.age, .int .u8 h.opts, .int .u8 h.typ, .int .u32 h.id, .int .u32 h.adv, .int .i32 h.seq, .int .u16 h.sum, .int .u16 h.len, .slice A n c] ∧ LF w3.drew F' g bm r _ (dropL L h.key) ∧ Kept F w w3.drew ∧ SE.rd w3.drew ⟨h, A, n, c, B⟩ ∧ Grew w F F') :=
      Lib.hid ⟨(F2.out.1.kept hk3 hgsF).drewN 1, hl3.later (Below.refl _ _).drew, (F2.out.2.2.1.trans hk3 (fun _ _ h => h)).drew, (F2.out.2.2.2.kept hk3 hFs.out).later (Below.refl _ _).drew, hgr.1, fun i hi => (hgr.2 i hi).elim .inl (fun e => .inr (Nat.le_trans F2.out.2.2.1.size e))⟩
    clear F2 hl3 hgr hk3
    go_wp2_with fail
    obtain ⟨kv, hB3, hO3, hF3⟩ := F3.out.2.1.ex
    obtain ⟨A3, c3, rfl, hn3, hc3, -, -⟩ := hO3.shape
    generalize hN : (dropL L h.key).length = N at *
    have HN := Lib.hid hN
    clear hN
    have hN6 : N < 1000000 := by
      have h1 : (dropL L h.key).length ≤ L.length := List.length_filter_le _ _
      have h2 := HN.out
      omega
    have HS : Hid ((fun W : World => Blk W gs 44 #[.int .u16 h.age, .int .u8 h.opts, .int .u8 h.typ, .int .u32 h.id, .int .u32 h.adv, .int .i32 h.seq, .int .u16 h.sum, .int .u16 h.len, .slice A n c] ∧ W.cell? ⟨g, 2, none⟩ = some (.slice A3 N c3)) w3.drew) := Lib.hid ⟨F3.out.1, hB3.cell 2⟩
    have HO3 := Lib.hid (And.intro hO3 hF3)
    have HB3 := Lib.hid hB3
    clear hB3 hO3 hF3
    refine wp_region_g (fun W : World => Blk W gs 44 #[.int .u16 h.age, .int .u8 h.opts, .int .u8 h.typ, .int .u32 h.id, .int .u32 h.adv, .int .i32 h.seq, .int .u16 h.sum, .int .u16 h.len, .slice A n c] ∧ W.cell? ⟨g, 2, none⟩ = some (.slice A3 N c3))
      [.take 0, .take 1, .take 2, .take 3, .take 5, .take 4, .take 6, .one 7, .one 8, .one 9, .take 10, .take 11, .one 12] (by kernel_rfl) (fun _ d _ _ _ h => by cases d <;> exact h) ?_
    simp only [List.map_cons, List.map_nil, RStep.node, nthOp_zero, nthOp_succ]
    generalize w3.drew = w4 at *
    refine wpG_take HS (by rfl) (by intro W hW; clear hW; go_simp; try with_reducible rfl) ?_
    refine wpG_take HS (by rfl) (by intro W hW; clear hW; go_simp; try with_reducible rfl) ?_
    refine wpG_take HS (by rfl) (by intro W hW; clear hW; go_simp; try with_reducible rfl) ?_
    refine wpG_take HS (by rfl) (by intro W hW; clear hW; go_simp; try with_reducible rfl) ?_
    refine wpG_take HS (by rfl) (by intro W hW; clear hW; go_simp; try with_reducible rfl) ?_
    refine wpG_take HS (by rfl) (by intro W hW; obtain ⟨hW1, hW2⟩ := hW; obtain ⟨j0, j1, j2, j3, j4, j5, j6, j7, j8⟩ := stC_facts hW1; clear hW1; go_simp; try with_reducible rfl) ?_
    refine wpG_take HS (by rfl) (by intro W hW; obtain ⟨hW1, hW2⟩ := hW; obtain ⟨j0, j1, j2, j3, j4, j5, j6, j7, j8⟩ := stC_facts hW1; clear hW1; go_simp; try with_reducible rfl) ?_
    refine wpG_do fun K hK => ?_
    go_wp2_with fail
    refine (key_any h w4).mono ?_
    rintro e w5 ⟨rfl, hb5⟩
    have H5 := Lib.hid hb5
    have HS5 : Hid ((fun W : World => Blk W gs 44 #[.int .u16 h.age, .int .u8 h.opts, .int .u8 h.typ, .int .u32 h.id, .int .u32 h.adv, .int .i32 h.seq, .int .u16 h.sum, .int .u16 h.len, .slice A n c] ∧ W.cell? ⟨g, 2, none⟩ = some (.slice A3 N c3)) w5) := Lib.hid ⟨HS.out.1.later hb5, (hb5.cell (p := ⟨g, 2, none⟩) (cell_lt HS.out.2)).trans HS.out.2⟩
    clear hb5
    go_wp2_with fail
    refine hK.out _ _ HS5.out ?_
    clear hK K
    refine wpG_do fun K hK => ?_
    go_wp2
    have H6 : Hid (Below w5.heap.size w5 (w5.alloc (.cells #[.int .u8 h.typ, .int .u32 h.id, .int .u32 h.adv] 46)) ∧ Blk (w5.alloc (.cells #[.int .u8 h.typ, .int .u32 h.id, .int .u32 h.adv] 46)) w5.heap.size 46 #[.int .u8 h.typ, .int .u32 h.id, .int .u32 h.adv]) := Lib.hid ⟨(Below.refl _ _).alloc (Nat.le_refl _) _, Blk.new _ _ _⟩
    generalize w5.alloc (.cells #[.int .u8 h.typ, .int .u32 h.id, .int .u32 h.adv] 46) = w6 at *
    have hb46 := below_then H5.out H6.out.1
    have HS6 : Hid ((fun W : World => Blk W gs 44 #[.int .u16 h.age, .int .u8 h.opts, .int .u8 h.typ, .int .u32 h.id, .int .u32 h.adv, .int .i32 h.seq, .int .u16 h.sum, .int .u16 h.len, .slice A n c] ∧ W.cell? ⟨g, 2, none⟩ = some (.slice A3 N c3)) w6) := Lib.hid ⟨HS.out.1.later hb46, (hb46.cell (p := ⟨g, 2, none⟩) (cell_lt HS.out.2)).trans HS.out.2⟩
    have HO6 := Lib.hid (HO3.out.1.later hb46)
    refine hK.out _ _ HS6.out ?_
    clear hK K HS5
    have HR6 : Hid (Reads w6 w6.heap.size 3 (some ⟨w5.heap.size, 0, none⟩) 1 (kc h.key)) := Lib.hid ⟨rfl, fun _ => ⟨_, rfl, H6.out.2.lt, fun j u hu => by rw [add_none, Nat.zero_add, H6.out.2.cell]; simpa [kc] using hu⟩⟩
    refine wpG_do fun K hK => ?_
    go_wp2_with (at_builtin; go_must (refine wpList_appW el_key rfl (.tmp 28) (.tmp 32) rfl HO6.out rfl HR6.out rfl (el_key1 _) (by simp only [maxLen]; omega) (by omega) ?_); intro v7 w7 ho7 hk7 hn7; have H7 := Lib.hid (And.intro ho7 (And.intro hk7 hn7)); clear ho7 hk7 hn7)
    obtain ⟨A7, c7, hv7, -⟩ := H7.out.1.shape
    subst hv7
    have hkk : Kept (fun i => (Value.slice A3 N c3).ownBlock = some i) w6 w7 := H7.out.2.1
    have B6 := HB3.out.later hb46
    have B7 := B6.kept hkk (fun e => HO6.out.ne_blk B6 (by decide) e)
    have G7 := HS6.out.1.kept hkk (fun e => HO6.out.ne_blk HS6.out.1 (by decide) e)
    have M6 := F3.out.2.1.map.later hb46
    have M7 := M6.kept hkk (fun e => HO6.out.ne_map M6 e)
    have hsz := F3.out.2.2.1.size
    have K7 : Kept F w w7 := (F3.out.2.2.1.trans (Kept.of_new hb46 F) (fun _ _ h => h)).trans hkk (fun i hi e => (F3.out.2.2.2.2.2 i (HO3.out.2 i e)).elim id (fun e => absurd hi (by omega)))
    have O7 : ∀ s ∈ dropL L h.key, s.ok w7 := fun s hs => ((F3.out.2.1.ok s hs).later hb46).kept hkk (fun i hi e => ((F3.out.2.1.ok s hs).later hb46).body.ne_own HO6.out (by decide) hi e)
    have R7 : SE.rd w7 ⟨h, A, n, c, B⟩ := (F3.out.2.2.2.1.later hb46).kept2 hkk (fun h0 ad e e2 => (F3.out.2.2.2.2.2 _ (HO3.out.2 _ e2)).elim (fun e3 => hFs.out ad e e3) (fun e3 => by have := HAlt.out h0 ad e; omega))
    have c2 := B7.cell 2
    have f2 := B7.frozen 2
    simp at c2
    have HS7 : Hid ((fun W : World => Blk W gs 44 #[.int .u16 h.age, .int .u8 h.opts, .int .u8 h.typ, .int .u32 h.id, .int .u32 h.adv, .int .i32 h.seq, .int .u16 h.sum, .int .u16 h.len, .slice A n c] ∧ W.cell? ⟨g, 2, none⟩ = some (.slice A3 N c3)) w7) := Lib.hid ⟨G7, c2⟩
    have hggs : gs ≠ g := blk_ne G7 B7 (by decide)
    refine hK.out _ _ HS7.out ?_
    clear hK K HS6 HS
    refine wpG_take HS7 (by rfl) (by intro W hW; clear hW; go_simp; try with_reducible rfl) ?_
    refine wpG_take HS7 (by rfl) (by intro W hW; clear hW; go_simp; try with_reducible rfl) ?_
    have hs8 := kept_setC w7 g 2 (.slice A7 (N + 1) c7)
    have P8 := Lib.hid (And.intro (G7.kept hs8 hggs) (And.intro (B7.set_ 2 (.slice A7 (N + 1) c7)) (And.intro (M7.kept hs8 hne.out) (And.intro (H7.out.1.kept hs8 (fun i hi e => H7.out.1.ne_blk B7 (by decide) (e ▸ hi))) (And.intro (K7.trans hs8 (fun i _ e => (show F i from e ▸ HF0g.out))) (And.intro (fun s hs => (O7 s hs).kept hs8 (fun i hi e => (O7 s hs).body.ne_blk B7 (by decide) (e ▸ hi))) (R7.kept hs8 (fun ad e e2 => hFs.out ad e (e2 ▸ HF0g.out)))))))))
    clear B6 B7 G7 M6 M7 K7 O7 R7 hs8 hggs hkk HS7 HO6 HR6 H6 H5
    refine wpG_last fun K hK => ?_
    go_wp2
    refine hK.out _ _ ?_
    clear hK K c2 f2
    go_wp2
    have HS : Hid ((fun W : World => Blk W gs 44 #[.int .u16 h.age, .int .u8 h.opts, .int .u8 h.typ, .int .u32 h.id, .int .u32 h.adv, .int .i32 h.seq, .int .u16 h.sum, .int .u16 h.len, .slice A n c] ∧ W.cell? ⟨g, 3, none⟩ = some (.map (some bm))) (w7.setCell ⟨g, 2, none⟩ (.slice A7 (N + 1) c7)).drew) := Lib.hid ⟨P8.out.1, P8.out.2.1.cell 3⟩
    refine wp_region_g (fun W : World => Blk W gs 44 #[.int .u16 h.age, .int .u8 h.opts, .int .u8 h.typ, .int .u32 h.id, .int .u32 h.adv, .int .i32 h.seq, .int .u16 h.sum, .int .u16 h.len, .slice A n c] ∧ W.cell? ⟨g, 3, none⟩ = some (.map (some bm)))
      [.take 0, .take 1, .take 2, .take 4, .take 3, .take 5, .take 7, .one 6, .one 8, .one 9] (by kernel_rfl) (fun _ d _ _ _ h => by cases d <;> exact h) ?_
    simp only [List.map_cons, List.map_nil, RStep.node, nthOp_zero, nthOp_succ]
    have hd8 : Below (w7.setCell ⟨g, 2, none⟩ (.slice A7 (N + 1) c7)).heap.size (w7.setCell ⟨g, 2, none⟩ (.slice A7 (N + 1) c7)) (w7.setCell ⟨g, 2, none⟩ (.slice A7 (N + 1) c7)).drew := (Below.refl _ _).drew
    have hsz8 : (w7.setCell ⟨g, 2, none⟩ (.slice A7 (N + 1) c7)).drew.heap.size = w7.heap.size := by simp [World.setCell, World.drew]
    have hsz8' : Hid (w7.heap.size ≤ (w7.setCell ⟨g, 2, none⟩ (.slice A7 (N + 1) c7)).heap.size) := Lib.hid (by simp [World.setCell])
    generalize (w7.setCell ⟨g, 2, none⟩ (.slice A7 (N + 1) c7)).drew = w8 at *
    generalize w7.setCell ⟨g, 2, none⟩ (.slice A7 (N + 1) c7) = w7' at *
    refine wpG_take HS (by rfl) (by intro W hW; clear hW; go_simp; try with_reducible rfl) ?_
    refine wpG_take HS (by rfl) (by intro W hW; clear hW; go_simp; try with_reducible rfl) ?_
    refine wpG_take HS (by rfl) (by intro W hW; clear hW; go_simp; try with_reducible rfl) ?_
    refine wpG_take HS (by rfl) (by intro W hW; clear hW; go_simp; try with_reducible rfl) ?_
    refine wpG_take HS (by rfl) (by intro W hW; obtain ⟨hW1, hW2⟩ := hW; obtain ⟨j0, j1, j2, j3, j4, j5, j6, j7, j8⟩ := stC_facts hW1; clear hW1; go_simp; try with_reducible rfl) ?_
    refine wpG_take HS (by rfl) (by intro W hW; obtain ⟨hW1, hW2⟩ := hW; obtain ⟨j0, j1, j2, j3, j4, j5, j6, j7, j8⟩ := stC_facts hW1; clear hW1; go_simp; try with_reducible rfl) ?_
    refine wpG_take HS (by rfl) (by intro W hW; obtain ⟨hW1, hW2⟩ := hW; obtain ⟨j0, j1, j2, j3, j4, j5, j6, j7, j8⟩ := stC_facts hW1; clear hW1; go_simp; try with_reducible rfl) ?_
    refine wpG_do fun K hK => ?_
    go_wp2_with fail
    refine (key_any h w8).mono ?_
    rintro e w9 ⟨rfl, hb9⟩
    have H9 := Lib.hid hb9
    have HS9 : Hid ((fun W : World => Blk W gs 44 #[.int .u16 h.age, .int .u8 h.opts, .int .u8 h.typ, .int .u32 h.id, .int .u32 h.adv, .int .i32 h.seq, .int .u16 h.sum, .int .u16 h.len, .slice A n c] ∧ W.cell? ⟨g, 3, none⟩ = some (.map (some bm))) w9) := Lib.hid ⟨HS.out.1.later hb9, (hb9.cell (p := ⟨g, 3, none⟩) (cell_lt HS.out.2)).trans HS.out.2⟩
    clear hb9
    go_wp2_with fail
    refine hK.out _ _ HS9.out ?_
    clear hK K
    have hb79 := below_then hd8 H9.out
    have hR9 := P8.out.2.2.2.2.2.2.later hb79
    refine wpG_do fun K hK => ?_
    go_wp2_with fail
    refine (copied_any ⟨h, A, n, c, B⟩ w9 hR9).mono ?_
    rintro e w10 ⟨s', rfl, hcp, hb10⟩
    obtain ⟨h', A', n', c', B'⟩ := s'
    obtain rfl : h = h' := hcp.h.symm
    obtain rfl : B = B' := hcp.B.symm
    obtain rfl : n = n' := hcp.n.symm
    have H10 := Lib.hid (And.intro hcp hb10)
    have HS10 : Hid ((fun W : World => Blk W gs 44 #[.int .u16 h.age, .int .u8 h.opts, .int .u8 h.typ, .int .u32 h.id, .int .u32 h.adv, .int .i32 h.seq, .int .u16 h.sum, .int .u16 h.len, .slice A n c] ∧ W.cell? ⟨g, 3, none⟩ = some (.map (some bm))) w10) := Lib.hid ⟨HS9.out.1.later hb10, (hb10.cell (p := ⟨g, 3, none⟩) (cell_lt HS9.out.2)).trans HS9.out.2⟩
    have hb710 := below_then hb79 hb10
    clear hcp hb10
    go_wp2_with fail
    refine hK.out _ _ HS10.out ?_
    clear hK K
    have M10 := P8.out.2.2.1.later hb710
    have hfn := find_no (dropL_not L h.key)
    refine wpG_last fun K hK => ?_
    go_wp2_with (refine wpList_storeL_new keyT Try.underlying53 rfl (.tmp 39) (.tmp 42) (.tmp 44) rfl M10 rfl h.key rfl (stV h A' n c') rfl hfn ?_; intro w11 hm11 hk11; have H11 := Lib.hid (And.intro hm11 hk11); clear hm11 hk11)
    refine hK.out _ _ ?_
    clear hK K
    go_wp2
    go_end0
    have hk11 : Kept (fun i => i = bm) w10 w11 := H11.out.2
    have B10 := P8.out.2.1.later hb710
    have hbg : g ≠ bm := fun e => hne.out e.symm
    have O10 := fun s hs => (P8.out.2.2.2.2.2.1 s hs).later hb710
    have W10 := P8.out.2.2.2.1.later hb710
    have hsw : w.heap.size ≤ w9.heap.size := Nat.le_trans P8.out.2.2.2.2.1.size hb79.size
    refine ⟨rfl, fun i => F' i ∨ (Value.slice A7 (N + 1) c7).ownBlock = some i ∨ (Value.slice A' n c').ownBlock = some i, ⟨h, A', n, c', B⟩, ⟨⟨_, B10.kept hk11 hbg, ?_, fun i hi => .inr (.inl hi)⟩, ?_, .inl F3.out.2.1.fg, .inl F3.out.2.1.fb, ?_, ?_, ?_, ?_, ?_⟩, rfl, rfl, rfl, ⟨fun i hi => .inl (F3.out.2.2.2.2.1 i hi), ?_⟩, ?_⟩
    · rw [List.length_append, HN.out, keysL_app]
      have := W10.kept hk11 (fun i hi e => W10.ne_map M10 (e ▸ hi))
      simpa [keysL] using this
    · have := H11.out.1
      simpa [SE.v, SE.key] using this
    · intro s hs
      rcases List.mem_append.1 hs with hs | hs
      · exact (O10 s hs).kept hk11 (fun i hi e => (O10 s hs).body.ne_map M10 (e ▸ hi))
      · simp only [List.mem_cons, List.not_mem_nil, or_false] at hs
        subst hs
        exact H10.out.1.ok.kept hk11 (fun i hi e => H10.out.1.ok.body.ne_map M10 (e ▸ hi))
    · intro s hs i hi
      rcases List.mem_append.1 hs with hs | hs
      · exact .inl (F3.out.2.1.bodies s hs i hi)
      · simp only [List.mem_cons, List.not_mem_nil, or_false] at hs
        subst hs
        exact .inr (.inr hi)
    · rw [List.map_append, List.nodup_append]
      refine ⟨F3.out.2.1.nodup, by simp, ?_⟩
      intro a ha b hb e
      simp only [List.map_cons, List.map_nil, List.mem_cons, List.not_mem_nil, or_false] at hb
      subst hb; subst e
      obtain ⟨s, hs, e⟩ := List.mem_map.1 ha
      exact dropL_not L h.key s hs e
    · rw [List.length_append, HN.out]
      simp only [List.length_cons, List.length_nil]
      omega
    · intro i hi
      have hs1 := hk11.size
      have hs2 := hb710.size
      have hs3 := hb79.size
      rcases hi with hi | hi | hi
      · have h1 := F3.out.2.1.lim i hi
        have h2 := hb46.size
        have h3 := H7.out.2.1.size
        have h4 := hsz8'.out
        omega
      · have h1 := W10.lt hi
        omega
      · have h1 := H10.out.1.ok.body.lt hi
        omega
    · intro i hi
      rcases hi with hi | hi | hi
      · exact F3.out.2.2.2.2.2 i hi
      · rcases H7.out.2.2 with e | ⟨i', e, hge⟩
        · rw [e] at hi
          exact F3.out.2.2.2.2.2 i (HO3.out.2 i hi)
        · rw [e] at hi
          injection hi with hi
          have h2 := hb46.size
          exact .inr (by omega)
      · have h1 := H10.out.1.new i hi
        exact .inr (by omega)
    · exact (P8.out.2.2.2.2.1.trans (Kept.of_new hb710 F) (fun _ _ h => h)).trans hk11 (fun i _ e => e ▸ HF0b.out)
end Go.Proofs.Ytjkmehpokdaonaa
