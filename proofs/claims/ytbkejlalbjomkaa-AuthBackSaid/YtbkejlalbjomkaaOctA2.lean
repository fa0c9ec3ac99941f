/-
  octet: Write, Done, Read, and the reader's methods, walked.
-/
import Derived.Test.YtbkejlalbjomkaaOctA1
namespace Go.Proofs.Ytbkejlalbjomkaa
set_option linter.unusedVariables false
open Go.RowKit

theorem write_any (m : Int) (w : World) (h0 : -9223372036854775808 ≤ m) (h1 : m ≤ 9223372036854775807) :
    Calls Try.prog 31 #[.int .i64 m] w fun e w' => ∃ g, e = .returned (.pointer (some ⟨g, 0, none⟩)) ∧ WS w.heap.size w' g (.slice none 0 0) ⟨max m 0, 0, []⟩ ∧ Below w.heap.size w w' := by
  have key : ∀ M : Int, WS w.heap.size (w.alloc (.cells #[.slice none 0 0, .int .i64 M, .int .i64 0, .bool true] 124)) w.heap.size (.slice none 0 0) ⟨M, 0, []⟩ :=
    fun M => ⟨Nat.le_refl _, Blk.new _ _ _, World.ownsRow_nil _ _ _ _⟩
  have KEY := Lib.hid key
  clear key
  by_cases hm : 0 ≤ m
  · have e : Hid (max m 0 = m) := by show _ = _; omega
    go_enter Try.func31, Try.ntmps31
    go_wp2
    go_ret
    exact ⟨_, rfl, by rw [e.out]; exact KEY.out m, (Below.refl _ _).alloc (Nat.le_refl _) _⟩
  · have e : Hid (max m 0 = 0) := by show _ = _; omega
    go_enter Try.func31, Try.ntmps31
    go_wp2
    go_ret
    exact ⟨_, rfl, by rw [e.out]; exact KEY.out 0, (Below.refl _ _).alloc (Nat.le_refl _) _⟩

/-- Clone of bytes: a row of the call's own. -/
theorem clone_any (A : Option Addr) (n c : Nat) (xs : List Int) (w : World) (hx : Reads w w.heap.size 1 A n (u8s xs)) (hn : n ≤ 140737488355328) :
    Calls Try.prog 73 #[.slice A n c] w fun e w' => ∃ v, e = .returned v ∧ w'.ownsRow w.heap.size 5 1 v xs.length (u8s xs) ∧ Below w.heap.size w w' := by
  have hl := Lib.hid hx.u8len
  have hE := fun W : World => Lib.run_eql_slice_nil (P := Try.prog) W 39 5 A n c 0 0 Try.underlying39
  rcases A with _ | ad
  · have h0 : n = 0 := by
      rcases Nat.eq_zero_or_pos n with h | h
      · exact h
      · obtain ⟨ad, h, _⟩ := hx.2 h
        cases h
    subst h0
    clear hx
    simp only [Option.isNone_none] at hE
    go_enter Try.func73, Try.ntmps73
    go_wp2
    go_ret
    refine ⟨_, rfl, ?_, Below.refl _ _⟩
    rw [hl.out, List.eq_nil_of_length_eq_zero hl.out]
    exact World.ownsRow_nil _ _ _ _
  · simp only [Option.isNone_some] at hE
    have HO : Hid ((w.alloc (.cells #[] 5)).ownsRow w.heap.size 5 1 (.slice (some ⟨w.heap.size, 0, none⟩) 0 0) 0 (u8s [])) := by
      refine ⟨rfl, .inr ⟨w.heap.size, 0, #[], rfl, Nat.le_refl _, heap_alloc_new w _, Nat.le_refl _, by simp [maxLen], rfl, rfl⟩⟩
    have HX := Lib.hid ((hx.alloc (Nat.le_refl _) (.cells #[] 5)))
    clear hx
    go_enter Try.func73, Try.ntmps73
    go_wp2_with (at_builtin; refine wpList_app el_u8 rfl (.tmp 5) (.tmp 6) rfl HO.out rfl HX.out rfl u8s_one (by simp only [maxLen]; omega) (by omega) (by rw [World.size_alloc]; omega) ?_; intro v1 w1 ho1 hb1 hg1 hat1)
    go_ret
    refine ⟨_, rfl, ?_, ((Below.refl _ _).alloc (Nat.le_refl _) _).trans hb1⟩
    rw [hl.out]
    have := ho1
    rw [Nat.zero_add] at this
    exact this

/-- Done: a copy of what was laid, or the error. -/
def DonePost (w w' : World) (s : Wr) (e : Ending) : Prop := ∃ u, e = .returned (.tuple #[u, .int .i64 s.e]) ∧
      (if s.e = 0 then w'.ownsRow w.heap.size 5 1 u s.xs.length (u8s s.xs) else u = .slice none 0 0) ∧ Below w.heap.size w w'
set_option maxHeartbeats 400000 in
theorem done_any (base g : Nat) (v : Value) (s : Wr) (w : World) (h : WS base w g v s) (hn : s.xs.length ≤ 140737488355328) :
    Calls Try.prog 41 #[.pointer (some ⟨g, 0, none⟩)] w fun e w' => DonePost w w' s e := by
  have c3 : w.cell? ⟨g, 3, none⟩ = some (.bool true) := by rw [h.2.1.cell]; rfl
  have c2 : w.cell? ⟨g, 2, none⟩ = some (.int .i64 s.e) := by rw [h.2.1.cell]; rfl
  by_cases he : s.e = 0
  · obtain ⟨A0, c0, hv, hc0, hm, hr0⟩ := own_shape h.2.2
    have c0' : w.cell? ⟨g, 0, none⟩ = some (.slice A0 s.xs.length c0) := by rw [h.2.1.cell, hv]; rfl
    have HR := Lib.hid hr0
    have HE := Lib.hid he
    rw [he] at c2
    clear h hv hr0 he
    go_enter Try.func41, Try.ntmps41
    go_wp2_with (go_at_call 73; refine (clone_any A0 _ c0 s.xs w HR.out hn).mono ?_; rintro e w1 ⟨u, rfl, ho, hb⟩; have HO := Lib.hid (And.intro ho hb); clear ho hb)
    go_ret2
    exact ⟨u, by rw [HE.out]; rfl, by rw [if_pos HE.out]; exact HO.out.1, HO.out.2⟩
  · have hb : (s.e != 0) = true := by simp [he]
    have HE := Lib.hid he
    clear h he
    go_enter Try.func41, Try.ntmps41
    go_wp2
    go_quiet (fail)
    go_wp2
    go_ret2
    exact ⟨_, rfl, by rw [if_neg HE.out]; rfl, below_of_drewN _ _ nq⟩

/-- A reader, as plain data: the bytes, the place, the error. -/
structure Rd where
  xs : List Int
  pos : Nat
  e : Int
/-- So many bytes, or none; and the reader behind it. -/
def Rd.next (s : Rd) (k : Int) : Option (List Int) × Rd :=
  if s.e = 0 then
    if k < 0 then (none, { s with e := 1 })
    else if k > (s.xs.length : Int) - s.pos then (none, { s with e := 10 })
    else (some ((s.xs.drop s.pos).take k.toNat), { s with pos := s.pos + k.toNat })
  else (none, s)
/-- A number, the greatest byte first. -/
def be (ys : List Int) : Int := ys.foldl (fun v c => v * 256 + c) 0
def beOf : Option (List Int) → Int
  | some ys => be ys
  | none => 0
def Rd.num (s : Rd) (n : Int) : Int × Rd := (beOf (s.next (if n < 1 ∨ 4 < n then -1 else n)).1, (s.next (if n < 1 ∨ 4 < n then -1 else n)).2)

/-- A reader in memory. -/
structure RS (w : World) (g : Nat) (A : Option Addr) (n c : Nat) (s : Rd) : Prop where
  blk : Blk w g 135 #[.slice A n c, .int .i64 (s.pos : Int), .int .i64 s.e, .bool true]
  reads : Reads w w.heap.size 1 A n (u8s s.xs)
  le : s.pos ≤ n
  cap : n ≤ c
  max : c ≤ 9223372036854775807
  ne : 0 < n → ∀ ad, A = some ad → ad.block ≠ g
theorem RS.len {w : World} {g n c : Nat} {A : Option Addr} {s : Rd} (h : RS w g A n c s) : s.xs.length = n := h.reads.u8len
theorem RS.drewN {w : World} {g n c : Nat} {A : Option Addr} {s : Rd} (h : RS w g A n c s) (k : Nat) : RS (w.drewN k) g A n c s := ⟨h.blk, h.reads, h.le, h.cap, h.max, h.ne⟩
theorem RS.kept {S : Nat → Prop} {w w' : World} {g n c : Nat} {A : Option Addr} {s : Rd} (h : RS w g A n c s) (k : Kept S w w') (hg : ¬ S g) (hA : 0 < n → ∀ ad, A = some ad → ¬ S ad.block) : RS w' g A n c s :=
  ⟨h.blk.kept k hg, h.reads.keptUp k hA, h.le, h.cap, h.max, h.ne⟩
theorem RS.later {w w' : World} {g n c : Nat} {A : Option Addr} {s : Rd} (h : RS w g A n c s) (k : Below w.heap.size w w') : RS w' g A n c s :=
  ⟨h.blk.later k, h.reads.later k, h.le, h.cap, h.max, h.ne⟩
/-- A cell of the reader itself is written. -/
theorem RS.set {w : World} {g n c : Nat} {A : Option Addr} {s : Rd} (h : RS w g A n c s) (i : Nat) (u : Value) (s' : Rd) (hs : s'.xs = s.xs) (hp : s'.pos ≤ n)
    (hu : (#[.slice A n c, .int .i64 (s.pos : Int), .int .i64 s.e, .bool true] : Array Value).setIfInBounds i u = #[.slice A n c, .int .i64 (s'.pos : Int), .int .i64 s'.e, .bool true]) : RS (w.setCell ⟨g, i, none⟩ u) g A n c s' := by
  have hk := (Kept.refl (fun j => j = g) w).setCell (p := ⟨g, i, none⟩) (fun _ => rfl) u
  refine ⟨?_, ?_, hp, h.cap, h.max, h.ne⟩
  · have := h.blk.set_ i u
    rw [hu] at this
    exact this
  · rw [hs]
    exact h.reads.keptUp hk h.ne
theorem kept_set (w : World) (g i : Nat) (u : Value) : Kept (fun j => j = g) w (w.setCell ⟨g, i, none⟩ u) := (Kept.refl (fun j => j = g) w).setCell (p := ⟨g, i, none⟩) (fun _ => rfl) u

theorem none_any (w : World) (g : Nat) (A : Option Addr) (n c : Nat) (s : Rd) (h : RS w g A n c s) :
    Calls Try.prog 98 #[.pointer (some ⟨g, 0, none⟩)] w fun e w' => e = .returned (.bool false) ∧ w = w' := by
  have c3 : w.cell? ⟨g, 3, none⟩ = some (.bool true) := by rw [h.blk.cell]; rfl
  clear h
  go_enter Try.func98, Try.ntmps98
  go_wp2
  go_ret
  exact ⟨rfl, rfl⟩

/-- What 'next' leaves. -/
def NextPost (w w' : World) (g : Nat) (A : Option Addr) (n c : Nat) (s : Rd) (k : Int) (e : Ending) : Prop :=
  RS w' g A n c (s.next k).2 ∧ Kept (fun i => i = g) w w' ∧
    match (s.next k).1 with
    | some ys => ∃ A', e = .returned (.tuple #[.slice A' k.toNat k.toNat, .bool true]) ∧ Reads w' w'.heap.size 1 A' k.toNat (u8s ys) ∧ (0 < k.toNat → ∀ ad, A' = some ad → ad.block ≠ g)
    | none => e = .returned (.tuple #[.slice none 0 0, .bool false])

set_option maxRecDepth 100000 in
set_option maxHeartbeats 1000000 in
theorem next_any (w : World) (g : Nat) (A : Option Addr) (n c : Nat) (s : Rd) (k : Int) (h : RS w g A n c s) (hk0 : -9223372036854775808 ≤ k) (hk1 : k ≤ 9223372036854775807) :
    Calls Try.prog 85 #[.pointer (some ⟨g, 0, none⟩), .int .i64 k] w fun e w' => NextPost w w' g A n c s k e := by
  have hnn := Lib.hid (none_any w g A n c s h)
  have c0 : w.cell? ⟨g, 0, none⟩ = some (.slice A n c) := by rw [h.blk.cell]; rfl
  have c1 : w.cell? ⟨g, 1, none⟩ = some (.int .i64 (s.pos : Int)) := by rw [h.blk.cell]; rfl
  have c2 : w.cell? ⟨g, 2, none⟩ = some (.int .i64 s.e) := by rw [h.blk.cell]; rfl
  have f1 := h.blk.frozen 1
  have f2 := h.blk.frozen 2
  have hle := h.le
  have hcap := h.cap
  have hmax := h.max
  have hlen := Lib.hid h.len
  have H := Lib.hid h
  clear h
  by_cases he : s.e = 0
  · have HE := Lib.hid he
    rw [he] at c2
    clear he
    by_cases hk : k < 0
    · have hp : Hid (s.next k = (none, { s with e := 1 })) := by show _ = _; rw [Rd.next, if_pos HE.out, if_pos hk]
      go_enter Try.func85, Try.ntmps85
      go_wp2_with (go_at_call 98; refine hnn.out.mono ?_; rintro e w' ⟨rfl, rfl⟩)
      go_ret2
      unfold NextPost
      rw [hp.out]
      exact ⟨H.out.set 2 (.int .i64 1) { s with e := 1 } rfl hle rfl, kept_set _ _ _ _, rfl⟩
    · by_cases hsh : k > (n : Int) - s.pos
      · have hp : Hid (s.next k = (none, { s with e := 10 })) := by show _ = _; rw [Rd.next, if_pos HE.out, if_neg hk, hlen.out, if_pos hsh]
        go_enter Try.func85, Try.ntmps85
        go_wp2_with (go_at_call 98; refine hnn.out.mono ?_; rintro e w' ⟨rfl, rfl⟩)
        go_quiet (fail)
        go_wp2
        go_ret2
        unfold NextPost
        rw [hp.out]
        exact ⟨(H.out.drewN nq).set 2 (.int .i64 10) { s with e := 10 } rfl hle rfl, ((Kept.refl _ _).drewN nq).trans (kept_set _ _ _ _) (fun _ _ h => h), rfl⟩
      · obtain ⟨m, rfl⟩ := Int.eq_ofNat_of_zero_le (by omega : 0 ≤ k)
        have hp : Hid (s.next m = (some ((s.xs.drop s.pos).take m), { s with pos := s.pos + m })) := by show _ = _; rw [Rd.next, if_pos HE.out, if_neg hk, hlen.out, if_neg hsh]; rfl
        have hmn : s.pos + m ≤ n := by omega
        have hw1 : IntKind.i64.wrap ((s.pos : Int) + m) = (s.pos : Int) + m := IntWalk.i64_in _ (by omega)
        have hw2 : IntKind.i64.wrap ((s.pos : Int) + m - m) = (s.pos : Int) + m - m := IntWalk.i64_in _ (by omega)
        clear hk hsh hk0 hk1
        go_enter Try.func85, Try.ntmps85
        go_wp2_with (go_at_call 98; refine hnn.out.mono ?_; rintro e w' ⟨rfl, rfl⟩)
        go_quiet (fail)
        rename Nat => n1
        go_wp2
        go_quiet (fail)
        go_wp2
        all_goals
          rename Nat => n2
          go_ret2
          unfold NextPost
          rw [hp.out]
          have HR : RS (((w.drewN n1).setCell ⟨g, 1, none⟩ (.int .i64 ((s.pos : Int) + m))).drewN n2) g A n c { s with pos := s.pos + m } :=
            ((H.out.drewN n1).set 1 (.int .i64 ((s.pos : Int) + m)) { s with pos := s.pos + m } rfl hmn (by show _ = #[_, Value.int .i64 ((s.pos + m : Nat) : Int), _, _]; rw [Int.natCast_add]; rfl)).drewN n2
          refine ⟨HR, (((Kept.refl _ _).drewN n1).trans (kept_set _ _ _ _) (fun _ _ h => h)).drewN n2, ?_⟩
        · obtain rfl : m = 0 := by omega
          exact ⟨A, rfl, ⟨rfl, fun h => absurd h (by simp)⟩, fun h => absurd h (by simp)⟩
        · refine ⟨A.map fun x => x.add s.pos, rfl, ?_, ?_⟩
          · have h1 := HR.reads.cut (k := s.pos) (cap := n + 1 + s.pos) (by omega) (by omega)
            rw [if_neg (by omega), Nat.mul_one, u8s_drop] at h1
            have h2 := h1.pre (k := m) (by omega)
            rw [u8s_take] at h2
            exact h2
          · intro h0 ad had
            rcases A with _ | q
            · cases had
            · simp only [Option.map_some, Option.some.injEq] at had
              rw [← had, block_of_add]
              exact H.out.ne (by omega) q rfl
  · have hb : (s.e != 0) = true := by simp [he]
    have hp : Hid (s.next k = (none, s)) := by show _ = _; rw [Rd.next, if_neg he]
    clear he
    go_enter Try.func85, Try.ntmps85
    go_wp2_with (go_at_call 98; refine hnn.out.mono ?_; rintro e w' ⟨rfl, rfl⟩)
    go_ret2
    unfold NextPost
    rw [hp.out]
    exact ⟨H.out, Kept.refl _ _, rfl⟩
end Go.Proofs.Ytbkejlalbjomkaa
