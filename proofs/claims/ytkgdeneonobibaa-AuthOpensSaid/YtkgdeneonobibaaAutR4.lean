/-
  The reference's Open, walked.
-/
import Derived.Test.YtkgdeneonobibaaAutR3
import Derived.Test.YtkgdeneonobibaaAut7
namespace Go.Proofs.Ytkgdeneonobibaa
set_option linter.unusedVariables false
open Go.RowKit

/-- Does a key open the packet, by its password? -/
def pwB (xs : List Int) (now : Int) (k : AK) : Bool := tkB now k && decide (pw k.bs = (xs.drop 16).take 8)
/-- What opening answers: the number, the length, the error. -/
def openOf (xs : List Int) (L : List AK) (now : Int) : Int × Int × Int :=
  if (pkLen xs).2 ≠ 0 then (0, 0, (pkLen xs).2)
  else if 0 < L.length ∧ (checkOf L).1 ≠ 0 then (0, 0, 26)
  else if pkKind xs ≠ kind0 L then (0, 0, 25)
  else if kind0 L = 2 then digOf xs (pkLen xs).1.toNat L now
  else if wholeOf xs (pkLen xs).1 ≠ 0 then (0, 0, wholeOf xs (pkLen xs).1)
  else if kind0 L = 0 then (0, (pkLen xs).1, 0)
  else if L.any (pwB xs now) then (0, (pkLen xs).1, 0) else (0, 0, 26)
theorem check_kind {L : List AK} (h0 : 0 < L.length) (h : (checkOf L).1 = 0) : kind0 L = 1 ∨ kind0 L = 2 := by
  rcases L with _ | ⟨k, r⟩
  · simp at h0
  · unfold checkOf at h
    split at h
    · cases h
    · rw [List.length_cons] at h
      unfold checkFrom at h
      simp only [List.getElem?_cons_zero] at h
      split at h
      · cases h
      · rename_i hb
        simp only [badB, mayB, Bool.not_eq_true, Bool.or_eq_false_iff, Bool.not_eq_false', Bool.and_eq_true, decide_eq_true_eq] at hb
        obtain ⟨⟨⟨⟨⟨⟨⟨h1, h2⟩, h3⟩, _⟩, _⟩, _⟩, _⟩, _⟩ := hb
        unfold longest at h3
        show k.kind = 1 ∨ k.kind = 2
        split at h3
        · exact .inl ‹_›
        · split at h3
          · exact .inr ‹_›
          · omega
theorem checkFrom_two (L : List AK) : ∀ n i, (checkFrom L n i).1 = 0 → checkFrom L n i = (0, 0) := by
  intro n
  induction n with
  | zero => intro i _; rfl
  | succ n ih =>
    intro i h
    unfold checkFrom at h ⊢
    cases hk : L[i]? with
    | none => rfl
    | some k =>
      rw [hk] at h
      simp only at h ⊢
      split at h
      · cases h
      · split at h
        · cases h
        · rename_i h1 h2
          rw [if_neg h1, if_neg h2]
          exact ih _ h
theorem check_two {L : List AK} (h : (checkOf L).1 = 0) : checkOf L = (0, 0) := by
  unfold checkOf at h ⊢
  split at h
  · cases h
  · rename_i h1
    rw [if_neg h1]
    exact checkFrom_two L _ _ h
def plOut (xs : List Int) (L : List AK) (now : Int) (N : Nat) : Value := if L.any (pwB xs now) then .tuple #[.int .u32 0, .int .i64 N, .int .i64 0] else .tuple #[.int .u32 0, .int .i64 0, .int .i64 26]
theorem plOut_yes {xs : List Int} {L : List AK} {now : Int} {N : Nat} (h : L.any (pwB xs now) = true) : plOut xs L now N = .tuple #[.int .u32 0, .int .i64 N, .int .i64 0] := by unfold plOut; rw [if_pos h]
theorem plOut_no {xs : List Int} {L : List AK} {now : Int} {N : Nat} (h : L.any (pwB xs now) = false) : plOut xs L now N = .tuple #[.int .u32 0, .int .i64 0, .int .i64 26] := by unfold plOut; rw [if_neg (by simp [h])]
def RoRel (w : World) (xs : List Int) (L : List AK) (now : Int) (m : Nat) (i : Value) (wr : World) : Prop :=
  ∃ j : Nat, i = .int .i64 j ∧ j ≤ m ∧ Hid (∀ k ∈ L.take j, pwB xs now k = false) ∧ Below w.heap.size w wr
theorem roRel_next {w w' : World} {xs : List Int} {L : List AK} {now : Int} {m j : Nat} {k : AK} (hj : j < m) (h : Hid (∀ k ∈ L.take j, pwB xs now k = false)) (hk : L[j]? = some k) (hd : pwB xs now k = false) (hb : Below w.heap.size w w') :
    RoRel w xs L now m (.int .i64 ((j : Int) + 1)) w' :=
  ⟨j + 1, by simp, by omega, fun q hq => by
    rw [List.take_add_one, List.mem_append, hk] at hq
    rcases hq with h1 | h1
    · exact h.out q h1
    · simp at h1; subst h1; exact hd, hb⟩
theorem pany_no {xs : List Int} {L : List AK} {now : Int} (h : ∀ k ∈ L.take L.length, pwB xs now k = false) : L.any (pwB xs now) = false := by
  rw [List.take_length] at h
  rw [List.any_eq_false]
  exact fun k hk => by simp [h k hk]
theorem pany_yes {xs : List Int} {L : List AK} {now : Int} {j : Nat} {k : AK} (hk : L[j]? = some k) (hd : pwB xs now k = true) : L.any (pwB xs now) = true :=
  List.any_eq_true.2 ⟨k, List.mem_of_getElem? hk, hd⟩
set_option maxRecDepth 100000 in
set_option maxHeartbeats 4000000 in
theorem refOpen_len
    (A KA : Option Addr) (n c m kc : Nat) (xs : List Int) (L : List AK) (now : Int) (w : World) (hx : Reads w w.heap.size 1 A n (u8s xs)) (ho : Oct xs) (hc : n ≤ c) (hm : c ≤ 9223372036854775807) (hn : n ≤ 1099511627000)
    (hL : Keys w KA m L) (hkc : m ≤ kc) (hkm : kc ≤ 9223372036854775807)
    (E : Int) (hp : pkLen xs = (0, E)) (hE : E ≠ 0) :
    Calls Try.prog 19 #[.slice A n c, .slice KA m kc, .int .i64 now] w fun e w' => e = .returned (.tuple #[.int .u32 0, .int .i64 0, .int .i64 E]) ∧ Below w.heap.size w w' := by
  have HLen : Hid (∀ W : World, Below w.heap.size w W → Calls Try.prog 47 #[.slice A n c] W fun e w' => e = .returned (.tuple #[.int .i64 0, .int .i64 E]) ∧ Below W.heap.size W w') := fun W hb => by
    have := toBelow0 ((refLength_any A n c xs W W.heap.size (hx.later hb) ho hc hm).mono fun _ _ ⟨h1, h2⟩ => ⟨h1, h2.symm⟩)
    rwa [hp] at this
  have hE' : (E == 0) = false := by simpa using hE
  have hE'' : (E != 0) = true := by simpa using hE
  clear hx ho hL hp hE
  have HB : Hid (Below w.heap.size w w) := Below.refl _ _
  go_enter Try.func19, Try.ntmps19
  go_wp2_with (go_at_call 47; refine (HLen.out _ HB.out).mono ?_; rintro e w1 ⟨rfl, hb⟩; have HB := Lib.hid (below_then HB.out hb); clear hb HLen)
  go_ret3
  exact ⟨rfl, HB.out⟩
set_option maxRecDepth 100000 in
set_option maxHeartbeats 4000000 in
theorem refOpen_chk
    (A KA : Option Addr) (n c m kc : Nat) (xs : List Int) (L : List AK) (now : Int) (w : World) (hx : Reads w w.heap.size 1 A n (u8s xs)) (ho : Oct xs) (hc : n ≤ c) (hm : c ≤ 9223372036854775807) (hn : n ≤ 1099511627000)
    (hL : Keys w KA m L) (hkc : m ≤ kc) (hkm : kc ≤ 9223372036854775807)
    (N : Nat) (E P : Int) (h0 : 0 < m) (hp : pkLen xs = ((N : Int), 0)) (hck : checkOf L = (E, P)) (hE : E ≠ 0) :
    Calls Try.prog 19 #[.slice A n c, .slice KA m kc, .int .i64 now] w fun e w' => e = .returned (.tuple #[.int .u32 0, .int .i64 0, .int .i64 26]) ∧ Below w.heap.size w w' := by
  have HLen : Hid (∀ W : World, Below w.heap.size w W → Calls Try.prog 47 #[.slice A n c] W fun e w' => e = .returned (.tuple #[.int .i64 (N : Int), .int .i64 0]) ∧ Below W.heap.size W w') := fun W hb => by
    have := toBelow0 ((refLength_any A n c xs W W.heap.size (hx.later hb) ho hc hm).mono fun _ _ ⟨h1, h2⟩ => ⟨h1, h2.symm⟩)
    rwa [hp] at this
  have HCk : Hid (∀ W : World, Below w.heap.size w W → Calls Try.prog 13 #[.slice KA m kc] W fun e w' => e = .returned (.tuple #[.int .i64 E, .int .i64 P]) ∧ Below W.heap.size W w') := fun W hb => by
    have := refCheck_any KA m kc L W (hL.later hb) hkc (by omega)
    rwa [hck] at this
  have hE' : (E == 0) = false := by simpa using hE
  have hE'' : (E != 0) = true := by simpa using hE
  have hm0 : (0 : Int) < (m : Int) := by omega
  clear hx ho hL hp hE hck
  have HB : Hid (Below w.heap.size w w) := Below.refl _ _
  go_enter Try.func19, Try.ntmps19
  go_wp2_with (first
    | (go_at_call 47; refine (HLen.out _ HB.out).mono ?_; rintro e w1 ⟨rfl, hb⟩; have HB := Lib.hid (below_then HB.out hb); clear hb HLen)
    | (go_at_call 13; refine (HCk.out _ HB.out).mono ?_; rintro e w1 ⟨rfl, hb⟩; have HB := Lib.hid (below_then HB.out hb); clear hb HCk))
  go_ret3
  exact ⟨rfl, HB.out⟩
set_option maxRecDepth 100000 in
set_option maxHeartbeats 4000000 in
theorem refOpen_kind
    (A KA : Option Addr) (n c m kc : Nat) (xs : List Int) (L : List AK) (now : Int) (w : World) (hx : Reads w w.heap.size 1 A n (u8s xs)) (ho : Oct xs) (hc : n ≤ c) (hm : c ≤ 9223372036854775807) (hn : n ≤ 1099511627000)
    (hL : Keys w KA m L) (hkc : m ≤ kc) (hkm : kc ≤ 9223372036854775807)
    (N : Nat) (K K0 : Int) (h0 : 0 < m) (hp : pkLen xs = ((N : Int), 0)) (hck : checkOf L = (0, 0)) (hpk : pkKind xs = K) (hkd : kind0 L = K0) (hk0 : 0 ≤ K0 ∧ K0 ≤ 65535) (hK : K ≠ K0) :
    Calls Try.prog 19 #[.slice A n c, .slice KA m kc, .int .i64 now] w fun e w' => e = .returned (.tuple #[.int .u32 0, .int .i64 0, .int .i64 25]) ∧ Below w.heap.size w w' := by
  obtain ⟨h24, hNn⟩ := pkLen_ok (xs := xs) (by rw [hp])
  rw [hp] at h24 hNn
  simp only at h24 hNn
  rw [hx.u8len] at hNn
  have HLen : Hid (∀ W : World, Below w.heap.size w W → Calls Try.prog 47 #[.slice A n c] W fun e w' => e = .returned (.tuple #[.int .i64 (N : Int), .int .i64 0]) ∧ Below W.heap.size W w') := fun W hb => by
    have := toBelow0 ((refLength_any A n c xs W W.heap.size (hx.later hb) ho hc hm).mono fun _ _ ⟨h1, h2⟩ => ⟨h1, h2.symm⟩)
    rwa [hp] at this
  have HCk : Hid (∀ W : World, Below w.heap.size w W → Calls Try.prog 13 #[.slice KA m kc] W fun e w' => e = .returned (.tuple #[.int .i64 0, .int .i64 0]) ∧ Below W.heap.size W w') := fun W hb => by
    have := refCheck_any KA m kc L W (hL.later hb) hkc (by omega)
    rwa [hck] at this
  have HKd : Hid (∀ W : World, Below w.heap.size w W → Calls Try.prog 48 #[.slice A n c] W fun e w' => e = .returned (.int .i64 K) ∧ Below W.heap.size W w') := fun W hb => by
    have := toBelow (refKind_any A n c xs W W.heap.size (hx.later hb) ho (by omega) hc hm)
    rwa [hpk] at this
  obtain ⟨kad, rfl⟩ : ∃ ad, KA = some ad := by obtain ⟨ad, e, _⟩ := hL.row.2 (by omega); exact ⟨ad, e⟩
  have HF1 : Hid (∀ W : World, Below w.heap.size w W → W.cell? ⟨kad.block, kad.off + 1, none⟩ = some (.int .u16 K0)) := fun W hb => by
    have := (hL.later hb).first h0
    rwa [hkd] at this
  have hK' : (K == K0) = false := by simpa using hK
  have hK'' : (K != K0) = true := by simpa using hK
  have hm0 : (0 : Int) < (m : Int) := by omega
  obtain ⟨b1, b2⟩ := hk0
  have hw0 : IntKind.i64.wrap K0 = K0 := IntWalk.i64_in _ (by omega)
  clear hx ho hL hp hck hpk hkd hK
  have HB : Hid (Below w.heap.size w w) := Below.refl _ _
  go_enter Try.func19, Try.ntmps19
  go_wp2_with (first
    | (go_at_call 47; refine (HLen.out _ HB.out).mono ?_; rintro e w1 ⟨rfl, hb⟩; have HB := Lib.hid (below_then HB.out hb); clear hb HLen)
    | (go_at_call 13; refine (HCk.out _ HB.out).mono ?_; rintro e w1 ⟨rfl, hb⟩; have HB := Lib.hid (below_then HB.out hb); clear hb HCk; have q1 := HF1.out _ HB.out)
    | (go_at_call 48; refine (HKd.out _ HB.out).mono ?_; rintro e w1 ⟨rfl, hb⟩; have HB := Lib.hid (below_then HB.out hb); clear hb HKd))
  go_ret3
  exact ⟨rfl, HB.out⟩
set_option maxRecDepth 100000 in
set_option maxHeartbeats 4000000 in
theorem refOpen_kind0
    (A KA : Option Addr) (n c m kc : Nat) (xs : List Int) (L : List AK) (now : Int) (w : World) (hx : Reads w w.heap.size 1 A n (u8s xs)) (ho : Oct xs) (hc : n ≤ c) (hm : c ≤ 9223372036854775807) (hn : n ≤ 1099511627000)
    (hL : Keys w KA m L) (hkc : m ≤ kc) (hkm : kc ≤ 9223372036854775807)
    (N : Nat) (K : Int) (h0 : m = 0) (hp : pkLen xs = ((N : Int), 0)) (hpk : pkKind xs = K) (hK : K ≠ 0) :
    Calls Try.prog 19 #[.slice A n c, .slice KA m kc, .int .i64 now] w fun e w' => e = .returned (.tuple #[.int .u32 0, .int .i64 0, .int .i64 25]) ∧ Below w.heap.size w w' := by
  obtain ⟨h24, hNn⟩ := pkLen_ok (xs := xs) (by rw [hp])
  rw [hp] at h24 hNn
  simp only at h24 hNn
  rw [hx.u8len] at hNn
  have HLen : Hid (∀ W : World, Below w.heap.size w W → Calls Try.prog 47 #[.slice A n c] W fun e w' => e = .returned (.tuple #[.int .i64 (N : Int), .int .i64 0]) ∧ Below W.heap.size W w') := fun W hb => by
    have := toBelow0 ((refLength_any A n c xs W W.heap.size (hx.later hb) ho hc hm).mono fun _ _ ⟨h1, h2⟩ => ⟨h1, h2.symm⟩)
    rwa [hp] at this
  have HKd : Hid (∀ W : World, Below w.heap.size w W → Calls Try.prog 48 #[.slice A n c] W fun e w' => e = .returned (.int .i64 K) ∧ Below W.heap.size W w') := fun W hb => by
    have := toBelow (refKind_any A n c xs W W.heap.size (hx.later hb) ho (by omega) hc hm)
    rwa [hpk] at this
  have hK' : (K == 0) = false := by simpa using hK
  have hK'' : (K != 0) = true := by simpa using hK
  subst h0
  clear hx ho hL hp hpk hK
  have HB : Hid (Below w.heap.size w w) := Below.refl _ _
  go_enter Try.func19, Try.ntmps19
  go_wp2_with (first
    | (go_at_call 47; refine (HLen.out _ HB.out).mono ?_; rintro e w1 ⟨rfl, hb⟩; have HB := Lib.hid (below_then HB.out hb); clear hb HLen)
    | (go_at_call 48; refine (HKd.out _ HB.out).mono ?_; rintro e w1 ⟨rfl, hb⟩; have HB := Lib.hid (below_then HB.out hb); clear hb HKd))
  go_ret3
  exact ⟨rfl, HB.out⟩
set_option maxRecDepth 100000 in
set_option maxHeartbeats 4000000 in
theorem refOpen_dig
    (A KA : Option Addr) (n c m kc : Nat) (xs : List Int) (L : List AK) (now : Int) (w : World) (hx : Reads w w.heap.size 1 A n (u8s xs)) (ho : Oct xs) (hc : n ≤ c) (hm : c ≤ 9223372036854775807) (hn : n ≤ 1099511627000)
    (hL : Keys w KA m L) (hkc : m ≤ kc) (hkm : kc ≤ 9223372036854775807)
    (N : Nat) (q1 q2 q3 : Int) (h0 : 0 < m) (hp : pkLen xs = ((N : Int), 0)) (hck : checkOf L = (0, 0)) (hpk : pkKind xs = 2) (hkd : kind0 L = 2) (hdg : digOf xs N L now = (q1, q2, q3)) :
    Calls Try.prog 19 #[.slice A n c, .slice KA m kc, .int .i64 now] w fun e w' => e = .returned (.tuple #[.int .u32 q1, .int .i64 q2, .int .i64 q3]) ∧ Below w.heap.size w w' := by
  obtain ⟨h24, hNn⟩ := pkLen_ok (xs := xs) (by rw [hp])
  rw [hp] at h24 hNn
  simp only at h24 hNn
  rw [hx.u8len] at hNn
  have HLen : Hid (∀ W : World, Below w.heap.size w W → Calls Try.prog 47 #[.slice A n c] W fun e w' => e = .returned (.tuple #[.int .i64 (N : Int), .int .i64 0]) ∧ Below W.heap.size W w') := fun W hb => by
    have := toBelow0 ((refLength_any A n c xs W W.heap.size (hx.later hb) ho hc hm).mono fun _ _ ⟨h1, h2⟩ => ⟨h1, h2.symm⟩)
    rwa [hp] at this
  have HCk : Hid (∀ W : World, Below w.heap.size w W → Calls Try.prog 13 #[.slice KA m kc] W fun e w' => e = .returned (.tuple #[.int .i64 0, .int .i64 0]) ∧ Below W.heap.size W w') := fun W hb => by
    have := refCheck_any KA m kc L W (hL.later hb) hkc (by omega)
    rwa [hck] at this
  have HKd : Hid (∀ W : World, Below w.heap.size w W → Calls Try.prog 48 #[.slice A n c] W fun e w' => e = .returned (.int .i64 2) ∧ Below W.heap.size W w') := fun W hb => by
    have := toBelow (refKind_any A n c xs W W.heap.size (hx.later hb) ho (by omega) hc hm)
    rwa [hpk] at this
  have HDg : Hid (∀ W : World, Below w.heap.size w W → Calls Try.prog 49 #[.slice A n c, .int .i64 (N : Int), .slice KA m kc, .int .i64 now] W fun e w' => e = .returned (.tuple #[.int .u32 q1, .int .i64 q2, .int .i64 q3]) ∧ Below W.heap.size W w') := fun W hb => by
    have := refDigested_any A KA n c m kc N xs L now W (hx.later hb) ho hc hm hn (hL.later hb) (by omega) (by omega) (by omega)
    rwa [hdg] at this
  obtain ⟨kad, rfl⟩ : ∃ ad, KA = some ad := by obtain ⟨ad, e, _⟩ := hL.row.2 (by omega); exact ⟨ad, e⟩
  have HF1 : Hid (∀ W : World, Below w.heap.size w W → W.cell? ⟨kad.block, kad.off + 1, none⟩ = some (.int .u16 2)) := fun W hb => by
    have := (hL.later hb).first h0
    rwa [hkd] at this
  have hm0 : (0 : Int) < (m : Int) := by omega
  clear hx ho hL hp hck hpk hkd hdg
  have HB : Hid (Below w.heap.size w w) := Below.refl _ _
  go_enter Try.func19, Try.ntmps19
  go_wp2_with (first
    | (go_at_call 47; refine (HLen.out _ HB.out).mono ?_; rintro e w1 ⟨rfl, hb⟩; have HB := Lib.hid (below_then HB.out hb); clear hb HLen)
    | (go_at_call 13; refine (HCk.out _ HB.out).mono ?_; rintro e w1 ⟨rfl, hb⟩; have HB := Lib.hid (below_then HB.out hb); clear hb HCk; have q1 := HF1.out _ HB.out)
    | (go_at_call 48; refine (HKd.out _ HB.out).mono ?_; rintro e w1 ⟨rfl, hb⟩; have HB := Lib.hid (below_then HB.out hb); clear hb HKd)
    | (go_at_call 49; refine (HDg.out _ HB.out).mono ?_; rintro e w1 ⟨rfl, hb⟩; have HB := Lib.hid (below_then HB.out hb); clear hb HDg))
  go_ret3
  exact ⟨rfl, HB.out⟩
set_option maxRecDepth 100000 in
set_option maxHeartbeats 4000000 in
theorem refOpen_whole0
    (A KA : Option Addr) (n c m kc : Nat) (xs : List Int) (L : List AK) (now : Int) (w : World) (hx : Reads w w.heap.size 1 A n (u8s xs)) (ho : Oct xs) (hc : n ≤ c) (hm : c ≤ 9223372036854775807) (hn : n ≤ 1099511627000)
    (hL : Keys w KA m L) (hkc : m ≤ kc) (hkm : kc ≤ 9223372036854775807)
    (N : Nat) (E : Int) (h0 : m = 0) (hp : pkLen xs = ((N : Int), 0)) (hpk : pkKind xs = 0) (hwh : wholeOf xs N = E) (hE : E ≠ 0) :
    Calls Try.prog 19 #[.slice A n c, .slice KA m kc, .int .i64 now] w fun e w' => e = .returned (.tuple #[.int .u32 0, .int .i64 0, .int .i64 E]) ∧ Below w.heap.size w w' := by
  obtain ⟨h24, hNn⟩ := pkLen_ok (xs := xs) (by rw [hp])
  rw [hp] at h24 hNn
  simp only at h24 hNn
  rw [hx.u8len] at hNn
  have HLen : Hid (∀ W : World, Below w.heap.size w W → Calls Try.prog 47 #[.slice A n c] W fun e w' => e = .returned (.tuple #[.int .i64 (N : Int), .int .i64 0]) ∧ Below W.heap.size W w') := fun W hb => by
    have := toBelow0 ((refLength_any A n c xs W W.heap.size (hx.later hb) ho hc hm).mono fun _ _ ⟨h1, h2⟩ => ⟨h1, h2.symm⟩)
    rwa [hp] at this
  have HKd : Hid (∀ W : World, Below w.heap.size w W → Calls Try.prog 48 #[.slice A n c] W fun e w' => e = .returned (.int .i64 0) ∧ Below W.heap.size W w') := fun W hb => by
    have := toBelow (refKind_any A n c xs W W.heap.size (hx.later hb) ho (by omega) hc hm)
    rwa [hpk] at this
  have HWh : Hid (∀ W : World, Below w.heap.size w W → Calls Try.prog 50 #[.slice A n c, .int .i64 (N : Int)] W fun e w' => e = .returned (.int .i64 E) ∧ Below W.heap.size W w') := fun W hb => by
    have := refPlainly_any A n c xs N W (hx.later hb) ho hc hm (by omega)
    rwa [hwh] at this
  have hE' : (E == 0) = false := by simpa using hE
  have hE'' : (E != 0) = true := by simpa using hE
  subst h0
  clear hx ho hL hp hpk hwh hE
  have HB : Hid (Below w.heap.size w w) := Below.refl _ _
  go_enter Try.func19, Try.ntmps19
  go_wp2_with (first
    | (go_at_call 47; refine (HLen.out _ HB.out).mono ?_; rintro e w1 ⟨rfl, hb⟩; have HB := Lib.hid (below_then HB.out hb); clear hb HLen)
    | (go_at_call 48; refine (HKd.out _ HB.out).mono ?_; rintro e w1 ⟨rfl, hb⟩; have HB := Lib.hid (below_then HB.out hb); clear hb HKd)
    | (go_at_call 50; refine (HWh.out _ HB.out).mono ?_; rintro e w1 ⟨rfl, hb⟩; have HB := Lib.hid (below_then HB.out hb); clear hb HWh))
  go_ret3
  exact ⟨rfl, HB.out⟩
set_option maxRecDepth 100000 in
set_option maxHeartbeats 4000000 in
theorem refOpen_whole
    (A KA : Option Addr) (n c m kc : Nat) (xs : List Int) (L : List AK) (now : Int) (w : World) (hx : Reads w w.heap.size 1 A n (u8s xs)) (ho : Oct xs) (hc : n ≤ c) (hm : c ≤ 9223372036854775807) (hn : n ≤ 1099511627000)
    (hL : Keys w KA m L) (hkc : m ≤ kc) (hkm : kc ≤ 9223372036854775807)
    (N : Nat) (E : Int) (h0 : 0 < m) (hp : pkLen xs = ((N : Int), 0)) (hck : checkOf L = (0, 0)) (hpk : pkKind xs = 1) (hkd : kind0 L = 1) (hwh : wholeOf xs N = E) (hE : E ≠ 0) :
    Calls Try.prog 19 #[.slice A n c, .slice KA m kc, .int .i64 now] w fun e w' => e = .returned (.tuple #[.int .u32 0, .int .i64 0, .int .i64 E]) ∧ Below w.heap.size w w' := by
  obtain ⟨h24, hNn⟩ := pkLen_ok (xs := xs) (by rw [hp])
  rw [hp] at h24 hNn
  simp only at h24 hNn
  rw [hx.u8len] at hNn
  have HLen : Hid (∀ W : World, Below w.heap.size w W → Calls Try.prog 47 #[.slice A n c] W fun e w' => e = .returned (.tuple #[.int .i64 (N : Int), .int .i64 0]) ∧ Below W.heap.size W w') := fun W hb => by
    have := toBelow0 ((refLength_any A n c xs W W.heap.size (hx.later hb) ho hc hm).mono fun _ _ ⟨h1, h2⟩ => ⟨h1, h2.symm⟩)
    rwa [hp] at this
  have HCk : Hid (∀ W : World, Below w.heap.size w W → Calls Try.prog 13 #[.slice KA m kc] W fun e w' => e = .returned (.tuple #[.int .i64 0, .int .i64 0]) ∧ Below W.heap.size W w') := fun W hb => by
    have := refCheck_any KA m kc L W (hL.later hb) hkc (by omega)
    rwa [hck] at this
  have HKd : Hid (∀ W : World, Below w.heap.size w W → Calls Try.prog 48 #[.slice A n c] W fun e w' => e = .returned (.int .i64 1) ∧ Below W.heap.size W w') := fun W hb => by
    have := toBelow (refKind_any A n c xs W W.heap.size (hx.later hb) ho (by omega) hc hm)
    rwa [hpk] at this
  have HWh : Hid (∀ W : World, Below w.heap.size w W → Calls Try.prog 50 #[.slice A n c, .int .i64 (N : Int)] W fun e w' => e = .returned (.int .i64 E) ∧ Below W.heap.size W w') := fun W hb => by
    have := refPlainly_any A n c xs N W (hx.later hb) ho hc hm (by omega)
    rwa [hwh] at this
  obtain ⟨kad, rfl⟩ : ∃ ad, KA = some ad := by obtain ⟨ad, e, _⟩ := hL.row.2 (by omega); exact ⟨ad, e⟩
  have HF1 : Hid (∀ W : World, Below w.heap.size w W → W.cell? ⟨kad.block, kad.off + 1, none⟩ = some (.int .u16 1)) := fun W hb => by
    have := (hL.later hb).first h0
    rwa [hkd] at this
  have hE' : (E == 0) = false := by simpa using hE
  have hE'' : (E != 0) = true := by simpa using hE
  have hm0 : (0 : Int) < (m : Int) := by omega
  clear hx ho hL hp hck hpk hkd hwh hE
  have HB : Hid (Below w.heap.size w w) := Below.refl _ _
  go_enter Try.func19, Try.ntmps19
  go_wp2_with (first
    | (go_at_call 47; refine (HLen.out _ HB.out).mono ?_; rintro e w1 ⟨rfl, hb⟩; have HB := Lib.hid (below_then HB.out hb); clear hb HLen)
    | (go_at_call 13; refine (HCk.out _ HB.out).mono ?_; rintro e w1 ⟨rfl, hb⟩; have HB := Lib.hid (below_then HB.out hb); clear hb HCk; have q1 := HF1.out _ HB.out)
    | (go_at_call 48; refine (HKd.out _ HB.out).mono ?_; rintro e w1 ⟨rfl, hb⟩; have HB := Lib.hid (below_then HB.out hb); clear hb HKd)
    | (go_at_call 50; refine (HWh.out _ HB.out).mono ?_; rintro e w1 ⟨rfl, hb⟩; have HB := Lib.hid (below_then HB.out hb); clear hb HWh))
  go_ret3
  exact ⟨rfl, HB.out⟩
set_option maxRecDepth 100000 in
set_option maxHeartbeats 4000000 in
theorem refOpen_null
    (A KA : Option Addr) (n c m kc : Nat) (xs : List Int) (L : List AK) (now : Int) (w : World) (hx : Reads w w.heap.size 1 A n (u8s xs)) (ho : Oct xs) (hc : n ≤ c) (hm : c ≤ 9223372036854775807) (hn : n ≤ 1099511627000)
    (hL : Keys w KA m L) (hkc : m ≤ kc) (hkm : kc ≤ 9223372036854775807)
    (N : Nat) (h0 : m = 0) (hp : pkLen xs = ((N : Int), 0)) (hpk : pkKind xs = 0) (hwh : wholeOf xs N = 0) :
    Calls Try.prog 19 #[.slice A n c, .slice KA m kc, .int .i64 now] w fun e w' => e = .returned (.tuple #[.int .u32 0, .int .i64 N, .int .i64 0]) ∧ Below w.heap.size w w' := by
  obtain ⟨h24, hNn⟩ := pkLen_ok (xs := xs) (by rw [hp])
  rw [hp] at h24 hNn
  simp only at h24 hNn
  rw [hx.u8len] at hNn
  have HLen : Hid (∀ W : World, Below w.heap.size w W → Calls Try.prog 47 #[.slice A n c] W fun e w' => e = .returned (.tuple #[.int .i64 (N : Int), .int .i64 0]) ∧ Below W.heap.size W w') := fun W hb => by
    have := toBelow0 ((refLength_any A n c xs W W.heap.size (hx.later hb) ho hc hm).mono fun _ _ ⟨h1, h2⟩ => ⟨h1, h2.symm⟩)
    rwa [hp] at this
  have HKd : Hid (∀ W : World, Below w.heap.size w W → Calls Try.prog 48 #[.slice A n c] W fun e w' => e = .returned (.int .i64 0) ∧ Below W.heap.size W w') := fun W hb => by
    have := toBelow (refKind_any A n c xs W W.heap.size (hx.later hb) ho (by omega) hc hm)
    rwa [hpk] at this
  have HWh : Hid (∀ W : World, Below w.heap.size w W → Calls Try.prog 50 #[.slice A n c, .int .i64 (N : Int)] W fun e w' => e = .returned (.int .i64 0) ∧ Below W.heap.size W w') := fun W hb => by
    have := refPlainly_any A n c xs N W (hx.later hb) ho hc hm (by omega)
    rwa [hwh] at this
  subst h0
  clear hx ho hL hp hpk hwh
  have HB : Hid (Below w.heap.size w w) := Below.refl _ _
  go_enter Try.func19, Try.ntmps19
  go_wp2_with (first
    | (go_at_call 47; refine (HLen.out _ HB.out).mono ?_; rintro e w1 ⟨rfl, hb⟩; have HB := Lib.hid (below_then HB.out hb); clear hb HLen)
    | (go_at_call 48; refine (HKd.out _ HB.out).mono ?_; rintro e w1 ⟨rfl, hb⟩; have HB := Lib.hid (below_then HB.out hb); clear hb HKd)
    | (go_at_call 50; refine (HWh.out _ HB.out).mono ?_; rintro e w1 ⟨rfl, hb⟩; have HB := Lib.hid (below_then HB.out hb); clear hb HWh))
  refine wp_loop_rounds 1 ?_
  rw [rounds_succ]
  go_wp2
  go_ret3
  exact ⟨rfl, HB.out⟩
set_option maxRecDepth 100000 in
set_option maxHeartbeats 4000000 in
theorem refOpen_plain
    (A KA : Option Addr) (n c m kc : Nat) (xs : List Int) (L : List AK) (now : Int) (w : World) (hx : Reads w w.heap.size 1 A n (u8s xs)) (ho : Oct xs) (hc : n ≤ c) (hm : c ≤ 9223372036854775807) (hn : n ≤ 1099511627000)
    (hL : Keys w KA m L) (hkc : m ≤ kc) (hkm : kc ≤ 9223372036854775807)
    (N : Nat) (hkn : ∀ k ∈ L, k.n ≤ 1099511627000) (h0 : 0 < m) (hp : pkLen xs = ((N : Int), 0)) (hck : checkOf L = (0, 0)) (hpk : pkKind xs = 1) (hkd : kind0 L = 1) (hwh : wholeOf xs N = 0) :
    Calls Try.prog 19 #[.slice A n c, .slice KA m kc, .int .i64 now] w fun e w' => e = .returned (plOut xs L now N) ∧ Below w.heap.size w w' := by
  obtain ⟨h24, hNn⟩ := pkLen_ok (xs := xs) (by rw [hp])
  rw [hp] at h24 hNn
  simp only at h24 hNn
  rw [hx.u8len] at hNn
  have HLen : Hid (∀ W : World, Below w.heap.size w W → Calls Try.prog 47 #[.slice A n c] W fun e w' => e = .returned (.tuple #[.int .i64 (N : Int), .int .i64 0]) ∧ Below W.heap.size W w') := fun W hb => by
    have := toBelow0 ((refLength_any A n c xs W W.heap.size (hx.later hb) ho hc hm).mono fun _ _ ⟨h1, h2⟩ => ⟨h1, h2.symm⟩)
    rwa [hp] at this
  have HCk : Hid (∀ W : World, Below w.heap.size w W → Calls Try.prog 13 #[.slice KA m kc] W fun e w' => e = .returned (.tuple #[.int .i64 0, .int .i64 0]) ∧ Below W.heap.size W w') := fun W hb => by
    have := refCheck_any KA m kc L W (hL.later hb) hkc (by omega)
    rwa [hck] at this
  have HKd : Hid (∀ W : World, Below w.heap.size w W → Calls Try.prog 48 #[.slice A n c] W fun e w' => e = .returned (.int .i64 1) ∧ Below W.heap.size W w') := fun W hb => by
    have := toBelow (refKind_any A n c xs W W.heap.size (hx.later hb) ho (by omega) hc hm)
    rwa [hpk] at this
  have HWh : Hid (∀ W : World, Below w.heap.size w W → Calls Try.prog 50 #[.slice A n c, .int .i64 (N : Int)] W fun e w' => e = .returned (.int .i64 0) ∧ Below W.heap.size W w') := fun W hb => by
    have := refPlainly_any A n c xs N W (hx.later hb) ho hc hm (by omega)
    rwa [hwh] at this
  obtain ⟨kad, rfl⟩ : ∃ ad, KA = some ad := by obtain ⟨ad, e, _⟩ := hL.row.2 (by omega); exact ⟨ad, e⟩
  have HF1 : Hid (∀ W : World, Below w.heap.size w W → W.cell? ⟨kad.block, kad.off + 1, none⟩ = some (.int .u16 1)) := fun W hb => by
    have := (hL.later hb).first h0
    rwa [hkd] at this
  have hm0 : (0 : Int) < (m : Int) := by omega
  have HX := Lib.hid hx
  have HL := Lib.hid hL
  have HKN := Lib.hid hkn
  clear hx ho hL hp hck hpk hkd hwh hkn
  have HB : Hid (Below w.heap.size w w) := Below.refl _ _
  go_enter Try.func19, Try.ntmps19
  go_wp2_with (first
    | (go_at_call 47; refine (HLen.out _ HB.out).mono ?_; rintro e w1 ⟨rfl, hb⟩; have HB := Lib.hid (below_then HB.out hb); clear hb HLen)
    | (go_at_call 13; refine (HCk.out _ HB.out).mono ?_; rintro e w1 ⟨rfl, hb⟩; have HB := Lib.hid (below_then HB.out hb); clear hb HCk; have q1 := HF1.out _ HB.out)
    | (go_at_call 48; refine (HKd.out _ HB.out).mono ?_; rintro e w1 ⟨rfl, hb⟩; have HB := Lib.hid (below_then HB.out hb); clear hb HKd)
    | (go_at_call 50; refine (HWh.out _ HB.out).mono ?_; rintro e w1 ⟨rfl, hb⟩; have HB := Lib.hid (below_then HB.out hb); clear hb HWh))
  go_loopw [12] (RoRel w xs L now m) (fun i _ => m - (intOf i).toNat)
  case atStart => exact ⟨0, rfl, by omega, by simp [Hid], HB.out⟩
  case round =>
    clear HB
    obtain ⟨j, rfl, hj, hno, hb⟩ := hrel
    have HB := Lib.hid hb
    clear hb
    by_cases hlt : j < m
    · obtain ⟨kad2, k, hka, hbl, hk, hok, c0, c1, c2, c3, c4, c5, c6⟩ := (HL.out.later HB.out).at_ hlt
      obtain rfl : kad = kad2 := by injection hka
      obtain ⟨id, kind, S, sn, sc, sf, su, tf, tu, bs⟩ := k
      simp only at c0 c1 c2 c3 c4 c5 c6
      have hl16 : (16 : Int) ≤ (c : Int) := by omega
      have hl24 : (24 : Int) ≤ (c : Int) := by omega
      by_cases q2 : tf ≤ now
      · by_cases q3 : now ≤ tu
        · have d2 : decide (tf ≤ now) = true := decide_eq_true q2
          have d3 : decide (now ≤ tu) = true := decide_eq_true q3
          obtain ⟨bb, hb0⟩ : ∃ bb, bb = decide (pw bs = (xs.drop 16).take 8) := ⟨_, rfl⟩
          have hbb := Lib.hid hb0
          have hd : Hid (pwB xs now ⟨id, kind, S, sn, sc, sf, su, tf, tu, bs⟩ = bb) := by show _ = _; unfold pwB tkB; simp [q2, q3, hb0]
          clear hb0
          obtain ⟨a, hA⟩ : ∃ a, A = some a := by obtain ⟨ad, e, _⟩ := HX.out.2 (by omega); exact ⟨ad, e⟩
          subst hA
          have HKO : Hid (∀ W : World, Below w.heap.size w W → KOk W ⟨id, kind, S, sn, sc, sf, su, tf, tu, bs⟩) := fun W hW => (HL.out.later hW).ok _ (List.mem_of_getElem? hk.out)
          have HD : Hid (∀ W : World, Below w.heap.size w W → Reads W W.heap.size 1 (some ⟨a.block, a.off + 16, none⟩) 8 (u8s ((xs.drop 16).take 8))) := fun W hW => ((HX.out.later hW).u8cutc (k := 16) (by omega) (by omega)).u8pre (by omega)
          have hsn : Hid (sn ≤ 1099511627000) := HKN.out _ (List.mem_of_getElem? hk.out)
          clear hok c0 c1 c2 c3 c4 c5 c6
          go_wp2
          have HS : Hid ((fun W : World => Keys W (some kad) m L) wr.drew) := (HL.out.later HB.out).later (Below.refl _ _).drew
          have HB := Lib.hid HB.out.drew
          refine wp_region_s (fun W : World => Keys W (some kad) m L) [(0, true), (1, true), (2, true), (3, true), (4, true), (5, true), (6, true), (7, true), (8, true), (9, true), (10, true), (11, true), (12, true), (13, true), (14, true), (15, true), (16, true), (17, true), (18, true), (19, true), (22, true), (23, true), (20, true), (21, false), (24, false), (25, true)] (by kernel_rfl) (fun _ d _ _ _ h => by cases d <;> exact h) ?_
          simp only [List.map_cons, List.map_nil, nthOp_zero, nthOp_succ]
          generalize wr.drew = w1 at *
          refine wpS_take HS (by kernel_rfl) (by intro W hW; obtain ⟨q0, q1, q2, q3, q4, q5, q6⟩ := hW.cells_at hk.out; clear hW; simp only at q0 q1 q2 q3 q4 q5 q6; go_simp; try with_reducible rfl) ?_
          refine wpS_take HS (by kernel_rfl) (by intro W hW; obtain ⟨q0, q1, q2, q3, q4, q5, q6⟩ := hW.cells_at hk.out; clear hW; simp only at q0 q1 q2 q3 q4 q5 q6; go_simp; try with_reducible rfl) ?_
          refine wpS_take HS (by kernel_rfl) (by intro W hW; obtain ⟨q0, q1, q2, q3, q4, q5, q6⟩ := hW.cells_at hk.out; clear hW; simp only at q0 q1 q2 q3 q4 q5 q6; go_simp; try with_reducible rfl) ?_
          refine wpS_take HS (by kernel_rfl) (by intro W hW; obtain ⟨q0, q1, q2, q3, q4, q5, q6⟩ := hW.cells_at hk.out; clear hW; simp only at q0 q1 q2 q3 q4 q5 q6; go_simp; try with_reducible rfl) ?_
          refine wpS_take HS (by kernel_rfl) (by intro W hW; obtain ⟨q0, q1, q2, q3, q4, q5, q6⟩ := hW.cells_at hk.out; clear hW; simp only at q0 q1 q2 q3 q4 q5 q6; go_simp; try with_reducible rfl) ?_
          refine wpS_take HS (by kernel_rfl) (by intro W hW; obtain ⟨q0, q1, q2, q3, q4, q5, q6⟩ := hW.cells_at hk.out; clear hW; simp only at q0 q1 q2 q3 q4 q5 q6; go_simp; try with_reducible rfl) ?_
          refine wpS_take HS (by kernel_rfl) (by intro W hW; obtain ⟨q0, q1, q2, q3, q4, q5, q6⟩ := hW.cells_at hk.out; clear hW; simp only at q0 q1 q2 q3 q4 q5 q6; go_simp; try with_reducible rfl) ?_
          refine wpS_take HS (by kernel_rfl) (by intro W hW; obtain ⟨q0, q1, q2, q3, q4, q5, q6⟩ := hW.cells_at hk.out; clear hW; simp only at q0 q1 q2 q3 q4 q5 q6; go_simp; try with_reducible rfl) ?_
          refine wpS_take HS (by kernel_rfl) (by intro W hW; obtain ⟨q0, q1, q2, q3, q4, q5, q6⟩ := hW.cells_at hk.out; clear hW; simp only at q0 q1 q2 q3 q4 q5 q6; go_simp; try with_reducible rfl) ?_
          refine wpS_take HS (by kernel_rfl) (by intro W hW; obtain ⟨q0, q1, q2, q3, q4, q5, q6⟩ := hW.cells_at hk.out; clear hW; simp only at q0 q1 q2 q3 q4 q5 q6; go_simp; try with_reducible rfl) ?_
          refine wpS_take HS (by kernel_rfl) (by intro W hW; obtain ⟨q0, q1, q2, q3, q4, q5, q6⟩ := hW.cells_at hk.out; clear hW; simp only at q0 q1 q2 q3 q4 q5 q6; go_simp; try with_reducible rfl) ?_
          refine wpS_take HS (by kernel_rfl) (by intro W hW; obtain ⟨q0, q1, q2, q3, q4, q5, q6⟩ := hW.cells_at hk.out; clear hW; simp only at q0 q1 q2 q3 q4 q5 q6; go_simp; try with_reducible rfl) ?_
          refine wpS_take HS (by kernel_rfl) (by intro W hW; obtain ⟨q0, q1, q2, q3, q4, q5, q6⟩ := hW.cells_at hk.out; clear hW; simp only at q0 q1 q2 q3 q4 q5 q6; go_simp; try with_reducible rfl) ?_
          refine wpS_take HS (by kernel_rfl) (by intro W hW; obtain ⟨q0, q1, q2, q3, q4, q5, q6⟩ := hW.cells_at hk.out; clear hW; simp only at q0 q1 q2 q3 q4 q5 q6; go_simp; try with_reducible rfl) ?_
          refine wpS_take HS (by kernel_rfl) (by intro W hW; obtain ⟨q0, q1, q2, q3, q4, q5, q6⟩ := hW.cells_at hk.out; clear hW; simp only at q0 q1 q2 q3 q4 q5 q6; go_simp; try with_reducible rfl) ?_
          refine wpS_take HS (by kernel_rfl) (by intro W hW; obtain ⟨q0, q1, q2, q3, q4, q5, q6⟩ := hW.cells_at hk.out; clear hW; simp only at q0 q1 q2 q3 q4 q5 q6; go_simp; try with_reducible rfl) ?_
          refine wpS_take HS (by kernel_rfl) (by intro W hW; obtain ⟨q0, q1, q2, q3, q4, q5, q6⟩ := hW.cells_at hk.out; clear hW; simp only at q0 q1 q2 q3 q4 q5 q6; go_simp; try with_reducible rfl) ?_
          refine wpS_take HS (by kernel_rfl) (by intro W hW; obtain ⟨q0, q1, q2, q3, q4, q5, q6⟩ := hW.cells_at hk.out; clear hW; simp only at q0 q1 q2 q3 q4 q5 q6; go_simp; try with_reducible rfl) ?_
          refine wpS_take HS (by kernel_rfl) (by intro W hW; obtain ⟨q0, q1, q2, q3, q4, q5, q6⟩ := hW.cells_at hk.out; clear hW; simp only at q0 q1 q2 q3 q4 q5 q6; go_simp; try with_reducible rfl) ?_
          refine wpS_take HS (by kernel_rfl) (by intro W hW; obtain ⟨q0, q1, q2, q3, q4, q5, q6⟩ := hW.cells_at hk.out; clear hW; simp only at q0 q1 q2 q3 q4 q5 q6; go_simp; try with_reducible rfl) ?_
          refine wpS_take HS (by kernel_rfl) (by intro W hW; obtain ⟨q0, q1, q2, q3, q4, q5, q6⟩ := hW.cells_at hk.out; clear hW; simp only at q0 q1 q2 q3 q4 q5 q6; go_simp; try with_reducible rfl) ?_
          refine wpS_take HS (by kernel_rfl) (by intro W hW; obtain ⟨q0, q1, q2, q3, q4, q5, q6⟩ := hW.cells_at hk.out; clear hW; simp only at q0 q1 q2 q3 q4 q5 q6; go_simp; try with_reducible rfl) ?_
          refine wpS_take HS (by kernel_rfl) (by intro W hW; obtain ⟨q0, q1, q2, q3, q4, q5, q6⟩ := hW.cells_at hk.out; clear hW; simp only at q0 q1 q2 q3 q4 q5 q6; go_simp; try with_reducible rfl) ?_
          go_simp
          refine wpS_do fun K1 hK1 => ?_
          go_wp2_with (go_at_call 52; refine (refPassword_any ⟨id, kind, S, sn, sc, sf, su, tf, tu, bs⟩ _ (HKO.out _ HB.out) hsn.out).mono ?_; rintro e w5 ⟨A5, c5, rfl, h5, hb5⟩; have H5 := Lib.hid h5; have HB5 := Lib.hid hb5; clear h5 hb5)
          have HS5 : Hid ((fun W : World => Keys W (some kad) m L) w5) := HS.out.later HB5.out
          have HB := Lib.hid (below_then HB.out HB5.out)
          refine hK1.out _ _ HS5.out ?_
          clear hK1 K1
          have HSm := Lib.hid (toBelow (refSame_any A5 (some ⟨a.block, a.off + 16, none⟩) 8 c5 8 (c - 16) (pw bs) ((xs.drop 16).take 8) w5 w5.heap.size w5.heap.size H5.out (HD.out _ HB.out) (by omega) (by omega)))
          rw [← hbb.out] at HSm
          refine wpS_do fun K1 hK1 => ?_
          go_wp2_with (go_at_call 51; refine HSm.out.mono ?_; rintro e w6 ⟨rfl, hb6⟩; have H6 := Lib.hid hb6; clear hb6)
          have HS6 : Hid ((fun W : World => Keys W (some kad) m L) w6) := HS5.out.later H6.out
          have HB := Lib.hid (below_then HB.out H6.out)
          refine hK1.out _ _ HS6.out ?_
          clear hK1 K1 HSm HS HS5 H5 H6 HB5
          refine wpS_take HS6 (by kernel_rfl) (by intro W hW; obtain ⟨q0, q1, q2, q3, q4, q5, q6⟩ := hW.cells_at hk.out; clear hW; simp only at q0 q1 q2 q3 q4 q5 q6; go_simp; try with_reducible rfl) ?_
          refine wpS_nil ?_
          go_simp
          clear HS6
          cases bb
          · have hnx := Lib.hid (fun W' => roRel_next (w := w) (w' := W') hlt hno hk.out hd.out)
            clear hd hno hk
            go_wp2
            go_roundw
            case rel => exact hnx.out _ HB.out
            case measure => simp [intOf]; omega
          · have hr := Lib.hid (plOut_yes (N := N) (pany_yes hk.out hd.out))
            clear hd hno hk
            go_wp2
            go_ret3
            exact ⟨by rw [hr.out]; rfl, HB.out⟩
        · have d3 : decide (now ≤ tu) = false := decide_eq_false q3
          have d2 : decide (tf ≤ now) = true := decide_eq_true q2
          have hd : pwB xs now ⟨id, kind, S, sn, sc, sf, su, tf, tu, bs⟩ = false := by unfold pwB tkB; simp [q3]
          have hnx := Lib.hid (fun W' => roRel_next (w := w) (w' := W') hlt hno hk.out hd)
          clear hd hno hk
          go_wp2
          go_quiet (fail)
          go_wp2
          go_roundw
          case rel => exact hnx.out _ (below_drewN HB.out _)
          case measure => simp [intOf]; omega
      · have d2 : decide (tf ≤ now) = false := decide_eq_false q2
        have hd : pwB xs now ⟨id, kind, S, sn, sc, sf, su, tf, tu, bs⟩ = false := by unfold pwB tkB; simp [q2]
        have hnx := Lib.hid (fun W' => roRel_next (w := w) (w' := W') hlt hno hk.out hd)
        clear hd hno hk
        go_wp2
        go_quiet (fail)
        go_wp2
        go_roundw
        case rel => exact hnx.out _ (below_drewN HB.out _)
        case measure => simp [intOf]; omega
    · obtain rfl : j = m := by omega
      have hr := Lib.hid (plOut_no (N := N) (pany_no (xs := xs) (L := L) (now := now) (by rw [HL.out.len]; exact hno.out)))
      clear hno
      go_wp2
      go_ret3
      exact ⟨by rw [hr.out]; rfl, HB.out⟩
end Go.Proofs.Ytkgdeneonobibaa
