/-
  auth.Open, the other ways, walked; and all together.
-/
import Derived.Test.YtkgdeneonobibaaAutO1
namespace Go.Proofs.Ytkgdeneonobibaa
set_option linter.unusedVariables false
open Go.RowKit Go.Shelf
attribute [local go_sem] Oper.semAt_some

set_option maxRecDepth 100000 in
set_option maxHeartbeats 4000000 in
theorem open_len
    (A KA : Option Addr) (n c m kc : Nat) (xs : List Int) (L : List AK) (now : Int) (w : World) (hx : Reads w w.heap.size 1 A n (u8s xs)) (ho : Oct xs) (hc : n ≤ c) (hm : c ≤ 9223372036854775807) (hn : n ≤ 1099511627000)
    (hL : Keys w KA m L) (hkc : m ≤ kc) (hkm : kc ≤ 9223372036854775807)
    (E : Int) (hp : pkLen xs = (0, E)) (hE : E ≠ 0) :
    Calls Try.prog 18 #[.slice A n c, .slice KA m kc, .int .i64 now] w fun e w' => e = .returned (.tuple #[.int .u32 0, .int .i64 0, .int .i64 E]) ∧ Below w.heap.size w w' := by
  have HLen : Hid (∀ W : World, Below w.heap.size w W → Calls Try.prog 41 #[.slice A n c] W fun e w' => PkAt W w' (0, E) e) := fun W hb => by
    have := length_any A n c xs W W.heap.size (hx.later hb) ho hc hm
    rwa [hp] at this
  have hE' : (E == 0) = false := by simpa using hE
  have hE'' : (E != 0) = true := by simpa using hE
  clear hx ho hL hp hE
  have H4 := Lib.hid (four_new w (.slice A n c))
  refine (callsIn_wide (n := 6)).1 (callsIn_of_wp_marks Try.func18 rfl trivial ?_ rfl)
  simp only [Try.ntmps18, List.size_toArray, List.length_cons, List.length_nil, Nat.reduceAdd, Nat.reduceSub, Array.replicate_succ, Array.replicate_zero, List.push_toArray, List.append_toArray, List.nil_append, List.cons_append]
  refine wpIn_wide.2 ?_
  go_wp2_with fail
  generalize (((w.alloc (.cells #[.slice A n c] 32)).alloc (.cells #[.int .u32 0] 34)).alloc (.cells #[.int .i64 0] 3)).alloc (.cells #[.int .i64 0] 26) = w0 at *
  generalize hs0 : w.heap.size = g at *
  refine (HLen.out w0 H4.out.bel).mono ?_
  rintro e w1 ⟨rfl, d, rfl⟩
  have k0 := H4.out.b0.cell 0; have k1 := H4.out.b1.cell 0; have k2 := H4.out.b2.cell 0; have k3 := H4.out.b3.cell 0; have f1 := H4.out.b1.frozen 0; have f2 := H4.out.b2.frozen 0; have f3 := H4.out.b3.frozen 0
  simp only [List.getElem?_toArray, List.getElem?_cons_zero] at k0 k1 k2 k3
  have H5 := Lib.hid (((H4.out.drewN d).set7 (.int .i64 0)).set8 (.int .i64 E))
  clear H4 HLen
  have H9 := Lib.hid ((((H5.out.set6 (.int .u32 0)).set7 (.int .i64 0)).set8 (.int .i64 E)).drew)
  go_wp2_with fail
  go_region
  go_wp2
  generalize ((((((w0.drewN d).setCell ⟨g + 1 + 1, 0, none⟩ (.int .i64 0)).setCell ⟨g + 1 + 1 + 1, 0, none⟩ (.int .i64 E)).setCell ⟨g + 1, 0, none⟩ (.int .u32 0)).setCell ⟨g + 1 + 1, 0, none⟩ (.int .i64 0)).setCell ⟨g + 1 + 1 + 1, 0, none⟩ (.int .i64 E)).drew = W9 at *
  exact ⟨_, op_results H9.out rfl rfl rfl, rfl, by rw [hs0]; exact H9.out.bel⟩
set_option maxRecDepth 100000 in
set_option maxHeartbeats 4000000 in
theorem open_chk
    (A KA : Option Addr) (n c m kc : Nat) (xs : List Int) (L : List AK) (now : Int) (w : World) (hx : Reads w w.heap.size 1 A n (u8s xs)) (ho : Oct xs) (hc : n ≤ c) (hm : c ≤ 9223372036854775807) (hn : n ≤ 1099511627000)
    (hL : Keys w KA m L) (hkc : m ≤ kc) (hkm : kc ≤ 9223372036854775807)
    (N : Nat) (E P : Int) (h0 : 0 < m) (hp : pkLen xs = ((N : Int), 0)) (hck : checkOf L = (E, P)) (hE : E ≠ 0) :
    Calls Try.prog 18 #[.slice A n c, .slice KA m kc, .int .i64 now] w fun e w' => e = .returned (.tuple #[.int .u32 0, .int .i64 0, .int .i64 26]) ∧ Below w.heap.size w w' := by
  have HLen : Hid (∀ W : World, Below w.heap.size w W → Calls Try.prog 41 #[.slice A n c] W fun e w' => PkAt W w' ((N : Int), 0) e) := fun W hb => by
    have := length_any A n c xs W W.heap.size (hx.later hb) ho hc hm
    rwa [hp] at this
  have HCk : Hid (∀ W : World, Below w.heap.size w W → Calls Try.prog 12 #[.slice KA m kc] W fun e w' => CkAt W w' (E, P) e) := fun W hb => by
    have := check_any KA m kc L W (hL.later hb) hkc (by omega)
    rwa [hck] at this
  have hE' : (E == 0) = false := by simpa using hE
  have hE'' : (E != 0) = true := by simpa using hE
  have hm0 : (0 : Int) < (m : Int) := by omega
  clear hx ho hL hp hck hE
  have H4 := Lib.hid (four_new w (.slice A n c))
  refine (callsIn_wide (n := 6)).1 (callsIn_of_wp_marks Try.func18 rfl trivial ?_ rfl)
  simp only [Try.ntmps18, List.size_toArray, List.length_cons, List.length_nil, Nat.reduceAdd, Nat.reduceSub, Array.replicate_succ, Array.replicate_zero, List.push_toArray, List.append_toArray, List.nil_append, List.cons_append]
  refine wpIn_wide.2 ?_
  go_wp2_with fail
  generalize (((w.alloc (.cells #[.slice A n c] 32)).alloc (.cells #[.int .u32 0] 34)).alloc (.cells #[.int .i64 0] 3)).alloc (.cells #[.int .i64 0] 26) = w0 at *
  generalize hs0 : w.heap.size = g at *
  refine (HLen.out w0 H4.out.bel).mono ?_
  rintro e w1 ⟨rfl, d, rfl⟩
  have k0 := H4.out.b0.cell 0; have k1 := H4.out.b1.cell 0; have k2 := H4.out.b2.cell 0; have k3 := H4.out.b3.cell 0; have f1 := H4.out.b1.frozen 0; have f2 := H4.out.b2.frozen 0; have f3 := H4.out.b3.frozen 0
  simp only [List.getElem?_toArray, List.getElem?_cons_zero] at k0 k1 k2 k3
  have H5 := Lib.hid (((H4.out.drewN d).set7 (.int .i64 N)).set8 (.int .i64 0))
  clear H4 HLen
  go_wp2_with fail
  generalize ((w0.drewN d).setCell ⟨g + 1 + 1, 0, none⟩ (.int .i64 (N : Int))).setCell ⟨g + 1 + 1 + 1, 0, none⟩ (.int .i64 0) = w2 at *
  clear k0 k1 k2 k3 f1 f2 f3
  refine (HCk.out w2 H5.out.bel).mono ?_
  rintro e w3 ⟨rfl, hb⟩
  have H6 := Lib.hid (H5.out.later hb)
  clear hb H5 HCk
  have k0 := H6.out.b0.cell 0; have k1 := H6.out.b1.cell 0; have k2 := H6.out.b2.cell 0; have k3 := H6.out.b3.cell 0; have f1 := H6.out.b1.frozen 0; have f2 := H6.out.b2.frozen 0; have f3 := H6.out.b3.frozen 0
  simp only [List.getElem?_toArray, List.getElem?_cons_zero] at k0 k1 k2 k3
  have H9 := Lib.hid ((((H6.out.set6 (.int .u32 0)).set7 (.int .i64 0)).set8 (.int .i64 26)))
  go_wp2_with fail
  generalize ((w3.setCell ⟨g + 1, 0, none⟩ (.int .u32 0)).setCell ⟨g + 1 + 1, 0, none⟩ (.int .i64 0)).setCell ⟨g + 1 + 1 + 1, 0, none⟩ (.int .i64 26) = W9 at *
  exact ⟨_, op_results H9.out rfl rfl rfl, rfl, by rw [hs0]; exact H9.out.bel⟩
set_option maxRecDepth 100000 in
set_option maxHeartbeats 4000000 in
theorem open_kind
    (A KA : Option Addr) (n c m kc : Nat) (xs : List Int) (L : List AK) (now : Int) (w : World) (hx : Reads w w.heap.size 1 A n (u8s xs)) (ho : Oct xs) (hc : n ≤ c) (hm : c ≤ 9223372036854775807) (hn : n ≤ 1099511627000)
    (hL : Keys w KA m L) (hkc : m ≤ kc) (hkm : kc ≤ 9223372036854775807)
    (N : Nat) (K K0 : Int) (h0 : 0 < m) (hp : pkLen xs = ((N : Int), 0)) (hck : checkOf L = (0, 0)) (hpk : pkKind xs = K) (hkd : kind0 L = K0) (hK : K ≠ K0) :
    Calls Try.prog 18 #[.slice A n c, .slice KA m kc, .int .i64 now] w fun e w' => e = .returned (.tuple #[.int .u32 0, .int .i64 0, .int .i64 25]) ∧ Below w.heap.size w w' := by
  obtain ⟨h24, hNn⟩ := pkLen_ok (xs := xs) (by rw [hp])
  rw [hp] at h24 hNn
  simp only at h24 hNn
  rw [hx.u8len] at hNn
  have HLen : Hid (∀ W : World, Below w.heap.size w W → Calls Try.prog 41 #[.slice A n c] W fun e w' => PkAt W w' ((N : Int), 0) e) := fun W hb => by
    have := length_any A n c xs W W.heap.size (hx.later hb) ho hc hm
    rwa [hp] at this
  have HCk : Hid (∀ W : World, Below w.heap.size w W → Calls Try.prog 12 #[.slice KA m kc] W fun e w' => CkAt W w' (0, 0) e) := fun W hb => by
    have := check_any KA m kc L W (hL.later hb) hkc (by omega)
    rwa [hck] at this
  have HKd : Hid (∀ W : World, Below w.heap.size w W → Calls Try.prog 42 #[.slice A n c] W fun e w' => e = .returned (.int .u16 K) ∧ ∃ k, w' = W.drewN k) := fun W hb => by
    have := kind_any A n c xs W W.heap.size (hx.later hb) ho (by omega) hc hm
    rwa [hpk] at this
  obtain ⟨kad, rfl⟩ : ∃ ad, KA = some ad := by obtain ⟨ad, e, _⟩ := hL.row.2 (by omega); exact ⟨ad, e⟩
  have HF1 : Hid (∀ W : World, Below w.heap.size w W → W.cell? ⟨kad.block, kad.off + 1, none⟩ = some (.int .u16 K0)) := fun W hb => by
    have := (hL.later hb).first h0
    rwa [hkd] at this
  have hK' : (K == K0) = false := by simpa using hK
  have hK'' : (K != K0) = true := by simpa using hK
  have hm0 : (0 : Int) < (m : Int) := by omega
  clear hx ho hL hp hck hpk hkd hK
  have H4 := Lib.hid (four_new w (.slice A n c))
  refine (callsIn_wide (n := 6)).1 (callsIn_of_wp_marks Try.func18 rfl trivial ?_ rfl)
  simp only [Try.ntmps18, List.size_toArray, List.length_cons, List.length_nil, Nat.reduceAdd, Nat.reduceSub, Array.replicate_succ, Array.replicate_zero, List.push_toArray, List.append_toArray, List.nil_append, List.cons_append]
  refine wpIn_wide.2 ?_
  go_wp2_with fail
  generalize (((w.alloc (.cells #[.slice A n c] 32)).alloc (.cells #[.int .u32 0] 34)).alloc (.cells #[.int .i64 0] 3)).alloc (.cells #[.int .i64 0] 26) = w0 at *
  generalize hs0 : w.heap.size = g at *
  refine (HLen.out w0 H4.out.bel).mono ?_
  rintro e w1 ⟨rfl, d, rfl⟩
  have k0 := H4.out.b0.cell 0; have k1 := H4.out.b1.cell 0; have k2 := H4.out.b2.cell 0; have k3 := H4.out.b3.cell 0; have f1 := H4.out.b1.frozen 0; have f2 := H4.out.b2.frozen 0; have f3 := H4.out.b3.frozen 0
  simp only [List.getElem?_toArray, List.getElem?_cons_zero] at k0 k1 k2 k3
  have H5 := Lib.hid (((H4.out.drewN d).set7 (.int .i64 N)).set8 (.int .i64 0))
  clear H4 HLen
  go_wp2_with fail
  generalize ((w0.drewN d).setCell ⟨g + 1 + 1, 0, none⟩ (.int .i64 (N : Int))).setCell ⟨g + 1 + 1 + 1, 0, none⟩ (.int .i64 0) = w2 at *
  clear k0 k1 k2 k3 f1 f2 f3
  refine (HCk.out w2 H5.out.bel).mono ?_
  rintro e w3 ⟨rfl, hb⟩
  have H6 := Lib.hid (H5.out.later hb)
  clear hb H5 HCk
  have k0 := H6.out.b0.cell 0; have k1 := H6.out.b1.cell 0; have k2 := H6.out.b2.cell 0; have k3 := H6.out.b3.cell 0; have f1 := H6.out.b1.frozen 0; have f2 := H6.out.b2.frozen 0; have f3 := H6.out.b3.frozen 0
  simp only [List.getElem?_toArray, List.getElem?_cons_zero] at k0 k1 k2 k3
  have q1 := HF1.out w3 H6.out.bel
  go_wp2_with fail
  refine (HKd.out w3 H6.out.bel).mono ?_
  rintro e w4 ⟨rfl, d4, hw4⟩
  have H7 := Lib.hid (H6.out.drewN d4)
  rw [← hw4] at H7
  clear H6 HKd HF1 q1 hw4 k0 k1 k2 k3 f1 f2 f3
  have k0 := H7.out.b0.cell 0; have k1 := H7.out.b1.cell 0; have k2 := H7.out.b2.cell 0; have k3 := H7.out.b3.cell 0; have f1 := H7.out.b1.frozen 0; have f2 := H7.out.b2.frozen 0; have f3 := H7.out.b3.frozen 0
  simp only [List.getElem?_toArray, List.getElem?_cons_zero] at k0 k1 k2 k3
  have H9 := Lib.hid ((((H7.out.set6 (.int .u32 0)).set7 (.int .i64 0)).set8 (.int .i64 25)))
  go_wp2_with fail
  generalize ((w4.setCell ⟨g + 1, 0, none⟩ (.int .u32 0)).setCell ⟨g + 1 + 1, 0, none⟩ (.int .i64 0)).setCell ⟨g + 1 + 1 + 1, 0, none⟩ (.int .i64 25) = W9 at *
  exact ⟨_, op_results H9.out rfl rfl rfl, rfl, by rw [hs0]; exact H9.out.bel⟩
set_option maxRecDepth 100000 in
set_option maxHeartbeats 4000000 in
theorem open_kind0
    (A KA : Option Addr) (n c m kc : Nat) (xs : List Int) (L : List AK) (now : Int) (w : World) (hx : Reads w w.heap.size 1 A n (u8s xs)) (ho : Oct xs) (hc : n ≤ c) (hm : c ≤ 9223372036854775807) (hn : n ≤ 1099511627000)
    (hL : Keys w KA m L) (hkc : m ≤ kc) (hkm : kc ≤ 9223372036854775807)
    (N : Nat) (K : Int) (h0 : m = 0) (hp : pkLen xs = ((N : Int), 0)) (hpk : pkKind xs = K) (hK : K ≠ 0) :
    Calls Try.prog 18 #[.slice A n c, .slice KA m kc, .int .i64 now] w fun e w' => e = .returned (.tuple #[.int .u32 0, .int .i64 0, .int .i64 25]) ∧ Below w.heap.size w w' := by
  obtain ⟨h24, hNn⟩ := pkLen_ok (xs := xs) (by rw [hp])
  rw [hp] at h24 hNn
  simp only at h24 hNn
  rw [hx.u8len] at hNn
  have HLen : Hid (∀ W : World, Below w.heap.size w W → Calls Try.prog 41 #[.slice A n c] W fun e w' => PkAt W w' ((N : Int), 0) e) := fun W hb => by
    have := length_any A n c xs W W.heap.size (hx.later hb) ho hc hm
    rwa [hp] at this
  have HKd : Hid (∀ W : World, Below w.heap.size w W → Calls Try.prog 42 #[.slice A n c] W fun e w' => e = .returned (.int .u16 K) ∧ ∃ k, w' = W.drewN k) := fun W hb => by
    have := kind_any A n c xs W W.heap.size (hx.later hb) ho (by omega) hc hm
    rwa [hpk] at this
  have hK' : (K == 0) = false := by simpa using hK
  have hK'' : (K != 0) = true := by simpa using hK
  clear hx ho hL hp hpk hK
  have H4 := Lib.hid (four_new w (.slice A n c))
  refine (callsIn_wide (n := 6)).1 (callsIn_of_wp_marks Try.func18 rfl trivial ?_ rfl)
  simp only [Try.ntmps18, List.size_toArray, List.length_cons, List.length_nil, Nat.reduceAdd, Nat.reduceSub, Array.replicate_succ, Array.replicate_zero, List.push_toArray, List.append_toArray, List.nil_append, List.cons_append]
  refine wpIn_wide.2 ?_
  go_wp2_with fail
  generalize (((w.alloc (.cells #[.slice A n c] 32)).alloc (.cells #[.int .u32 0] 34)).alloc (.cells #[.int .i64 0] 3)).alloc (.cells #[.int .i64 0] 26) = w0 at *
  generalize hs0 : w.heap.size = g at *
  refine (HLen.out w0 H4.out.bel).mono ?_
  rintro e w1 ⟨rfl, d, rfl⟩
  have k0 := H4.out.b0.cell 0; have k1 := H4.out.b1.cell 0; have k2 := H4.out.b2.cell 0; have k3 := H4.out.b3.cell 0; have f1 := H4.out.b1.frozen 0; have f2 := H4.out.b2.frozen 0; have f3 := H4.out.b3.frozen 0
  simp only [List.getElem?_toArray, List.getElem?_cons_zero] at k0 k1 k2 k3
  have H5 := Lib.hid (((H4.out.drewN d).set7 (.int .i64 N)).set8 (.int .i64 0))
  clear H4 HLen
  subst h0
  go_wp2_with fail
  generalize ((w0.drewN d).setCell ⟨g + 1 + 1, 0, none⟩ (.int .i64 (N : Int))).setCell ⟨g + 1 + 1 + 1, 0, none⟩ (.int .i64 0) = w2 at *
  refine (HKd.out w2 H5.out.bel).mono ?_
  rintro e w4 ⟨rfl, d4, hw4⟩
  have H7 := Lib.hid (H5.out.drewN d4)
  rw [← hw4] at H7
  clear H5 HKd hw4 k0 k1 k2 k3 f1 f2 f3
  have k0 := H7.out.b0.cell 0; have k1 := H7.out.b1.cell 0; have k2 := H7.out.b2.cell 0; have k3 := H7.out.b3.cell 0; have f1 := H7.out.b1.frozen 0; have f2 := H7.out.b2.frozen 0; have f3 := H7.out.b3.frozen 0
  simp only [List.getElem?_toArray, List.getElem?_cons_zero] at k0 k1 k2 k3
  have H9 := Lib.hid ((((H7.out.set6 (.int .u32 0)).set7 (.int .i64 0)).set8 (.int .i64 25)))
  go_wp2_with fail
  generalize ((w4.setCell ⟨g + 1, 0, none⟩ (.int .u32 0)).setCell ⟨g + 1 + 1, 0, none⟩ (.int .i64 0)).setCell ⟨g + 1 + 1 + 1, 0, none⟩ (.int .i64 25) = W9 at *
  exact ⟨_, op_results H9.out rfl rfl rfl, rfl, by rw [hs0]; exact H9.out.bel⟩
set_option maxRecDepth 100000 in
set_option maxHeartbeats 4000000 in
theorem open_dig
    (A KA : Option Addr) (n c m kc : Nat) (xs : List Int) (L : List AK) (now : Int) (w : World) (hx : Reads w w.heap.size 1 A n (u8s xs)) (ho : Oct xs) (hc : n ≤ c) (hm : c ≤ 9223372036854775807) (hn : n ≤ 1099511627000)
    (hL : Keys w KA m L) (hkc : m ≤ kc) (hkm : kc ≤ 9223372036854775807)
    (N : Nat) (q1 q2 q3 : Int) (h0 : 0 < m) (hp : pkLen xs = ((N : Int), 0)) (hck : checkOf L = (0, 0)) (hpk : pkKind xs = 2) (hkd : kind0 L = 2) (hdg : digOf xs N L now = (q1, q2, q3)) :
    Calls Try.prog 18 #[.slice A n c, .slice KA m kc, .int .i64 now] w fun e w' => e = .returned (.tuple #[.int .u32 q1, .int .i64 q2, .int .i64 q3]) ∧ Below w.heap.size w w' := by
  obtain ⟨h24, hNn⟩ := pkLen_ok (xs := xs) (by rw [hp])
  rw [hp] at h24 hNn
  simp only at h24 hNn
  rw [hx.u8len] at hNn
  have HLen : Hid (∀ W : World, Below w.heap.size w W → Calls Try.prog 41 #[.slice A n c] W fun e w' => PkAt W w' ((N : Int), 0) e) := fun W hb => by
    have := length_any A n c xs W W.heap.size (hx.later hb) ho hc hm
    rwa [hp] at this
  have HCk : Hid (∀ W : World, Below w.heap.size w W → Calls Try.prog 12 #[.slice KA m kc] W fun e w' => CkAt W w' (0, 0) e) := fun W hb => by
    have := check_any KA m kc L W (hL.later hb) hkc (by omega)
    rwa [hck] at this
  have HKd : Hid (∀ W : World, Below w.heap.size w W → Calls Try.prog 42 #[.slice A n c] W fun e w' => e = .returned (.int .u16 2) ∧ ∃ k, w' = W.drewN k) := fun W hb => by
    have := kind_any A n c xs W W.heap.size (hx.later hb) ho (by omega) hc hm
    rwa [hpk] at this
  have HDg : Hid (∀ W : World, Below w.heap.size w W → Calls Try.prog 43 #[.slice A n c, .int .i64 (N : Int), .slice KA m kc, .int .i64 now] W fun e w' => DgAt W w' (q1, q2, q3) e) := fun W hb => by
    have := odig_any A KA n c m kc N xs L now W (hx.later hb) ho hc hm hn (hL.later hb) hkc hkm (by omega) (by omega)
    rwa [hdg] at this
  obtain ⟨kad, rfl⟩ : ∃ ad, KA = some ad := by obtain ⟨ad, e, _⟩ := hL.row.2 (by omega); exact ⟨ad, e⟩
  have HF1 : Hid (∀ W : World, Below w.heap.size w W → W.cell? ⟨kad.block, kad.off + 1, none⟩ = some (.int .u16 2)) := fun W hb => by
    have := (hL.later hb).first h0
    rwa [hkd] at this
  have hm0 : (0 : Int) < (m : Int) := by omega
  clear hx ho hL hp hck hpk hkd hdg
  have H4 := Lib.hid (four_new w (.slice A n c))
  refine (callsIn_wide (n := 6)).1 (callsIn_of_wp_marks Try.func18 rfl trivial ?_ rfl)
  simp only [Try.ntmps18, List.size_toArray, List.length_cons, List.length_nil, Nat.reduceAdd, Nat.reduceSub, Array.replicate_succ, Array.replicate_zero, List.push_toArray, List.append_toArray, List.nil_append, List.cons_append]
  refine wpIn_wide.2 ?_
  go_wp2_with fail
  generalize (((w.alloc (.cells #[.slice A n c] 32)).alloc (.cells #[.int .u32 0] 34)).alloc (.cells #[.int .i64 0] 3)).alloc (.cells #[.int .i64 0] 26) = w0 at *
  generalize hs0 : w.heap.size = g at *
  refine (HLen.out w0 H4.out.bel).mono ?_
  rintro e w1 ⟨rfl, d, rfl⟩
  have k0 := H4.out.b0.cell 0; have k1 := H4.out.b1.cell 0; have k2 := H4.out.b2.cell 0; have k3 := H4.out.b3.cell 0; have f1 := H4.out.b1.frozen 0; have f2 := H4.out.b2.frozen 0; have f3 := H4.out.b3.frozen 0
  simp only [List.getElem?_toArray, List.getElem?_cons_zero] at k0 k1 k2 k3
  have H5 := Lib.hid (((H4.out.drewN d).set7 (.int .i64 N)).set8 (.int .i64 0))
  clear H4 HLen
  go_wp2_with fail
  generalize ((w0.drewN d).setCell ⟨g + 1 + 1, 0, none⟩ (.int .i64 (N : Int))).setCell ⟨g + 1 + 1 + 1, 0, none⟩ (.int .i64 0) = w2 at *
  clear k0 k1 k2 k3 f1 f2 f3
  refine (HCk.out w2 H5.out.bel).mono ?_
  rintro e w3 ⟨rfl, hb⟩
  have H6 := Lib.hid (H5.out.later hb)
  clear hb H5 HCk
  have k0 := H6.out.b0.cell 0; have k1 := H6.out.b1.cell 0; have k2 := H6.out.b2.cell 0; have k3 := H6.out.b3.cell 0; have f1 := H6.out.b1.frozen 0; have f2 := H6.out.b2.frozen 0; have f3 := H6.out.b3.frozen 0
  simp only [List.getElem?_toArray, List.getElem?_cons_zero] at k0 k1 k2 k3
  have s1 := HF1.out w3 H6.out.bel
  go_wp2_with fail
  refine (HKd.out w3 H6.out.bel).mono ?_
  rintro e w4 ⟨rfl, d4, hw4⟩
  have H7 := Lib.hid (H6.out.drewN d4)
  rw [← hw4] at H7
  clear H6 HKd HF1 s1 hw4 k0 k1 k2 k3 f1 f2 f3
  have k0 := H7.out.b0.cell 0; have k1 := H7.out.b1.cell 0; have k2 := H7.out.b2.cell 0; have k3 := H7.out.b3.cell 0; have f1 := H7.out.b1.frozen 0; have f2 := H7.out.b2.frozen 0; have f3 := H7.out.b3.frozen 0
  simp only [List.getElem?_toArray, List.getElem?_cons_zero] at k0 k1 k2 k3
  go_wp2_with fail
  refine (HDg.out w4 H7.out.bel).mono ?_
  rintro e w5 ⟨rfl, hb⟩
  have H8 := Lib.hid (H7.out.later hb)
  clear hb H7 HDg k0 k1 k2 k3 f1 f2 f3
  have k0 := H8.out.b0.cell 0; have k1 := H8.out.b1.cell 0; have k2 := H8.out.b2.cell 0; have k3 := H8.out.b3.cell 0; have f1 := H8.out.b1.frozen 0; have f2 := H8.out.b2.frozen 0; have f3 := H8.out.b3.frozen 0
  simp only [List.getElem?_toArray, List.getElem?_cons_zero] at k0 k1 k2 k3
  have H9 := Lib.hid ((((H8.out.set6 (.int .u32 q1)).set7 (.int .i64 q2)).set8 (.int .i64 q3)))
  go_wp2_with fail
  generalize ((w5.setCell ⟨g + 1, 0, none⟩ (.int .u32 q1)).setCell ⟨g + 1 + 1, 0, none⟩ (.int .i64 q2)).setCell ⟨g + 1 + 1 + 1, 0, none⟩ (.int .i64 q3) = W9 at *
  exact ⟨_, op_results H9.out rfl rfl rfl, rfl, by rw [hs0]; exact H9.out.bel⟩
set_option maxRecDepth 100000 in
set_option maxHeartbeats 4000000 in
theorem open_whole0
    (A KA : Option Addr) (n c m kc : Nat) (xs : List Int) (L : List AK) (now : Int) (w : World) (hx : Reads w w.heap.size 1 A n (u8s xs)) (ho : Oct xs) (hc : n ≤ c) (hm : c ≤ 9223372036854775807) (hn : n ≤ 1099511627000)
    (hL : Keys w KA m L) (hkc : m ≤ kc) (hkm : kc ≤ 9223372036854775807)
    (N : Nat) (E : Int) (h0 : m = 0) (hp : pkLen xs = ((N : Int), 0)) (hpk : pkKind xs = 0) (hwh : wholeOf xs N = E) (hE : E ≠ 0) :
    Calls Try.prog 18 #[.slice A n c, .slice KA m kc, .int .i64 now] w fun e w' => e = .returned (.tuple #[.int .u32 0, .int .i64 0, .int .i64 E]) ∧ Below w.heap.size w w' := by
  obtain ⟨h24, hNn⟩ := pkLen_ok (xs := xs) (by rw [hp])
  rw [hp] at h24 hNn
  simp only at h24 hNn
  rw [hx.u8len] at hNn
  have HLen : Hid (∀ W : World, Below w.heap.size w W → Calls Try.prog 41 #[.slice A n c] W fun e w' => PkAt W w' ((N : Int), 0) e) := fun W hb => by
    have := length_any A n c xs W W.heap.size (hx.later hb) ho hc hm
    rwa [hp] at this
  have HKd : Hid (∀ W : World, Below w.heap.size w W → Calls Try.prog 42 #[.slice A n c] W fun e w' => e = .returned (.int .u16 0) ∧ ∃ k, w' = W.drewN k) := fun W hb => by
    have := kind_any A n c xs W W.heap.size (hx.later hb) ho (by omega) hc hm
    rwa [hpk] at this
  have HWh : Hid (∀ W : World, Below w.heap.size w W → Calls Try.prog 44 #[.slice A n c, .int .i64 (N : Int)] W fun e w' => e = .returned (.int .i64 E) ∧ Below W.heap.size W w') := fun W hb => by
    have := whole_any A n c xs N W (hx.later hb) ho hc hm (by omega)
    rwa [hwh] at this
  have hE' : (E == 0) = false := by simpa using hE
  have hE'' : (E != 0) = true := by simpa using hE
  clear hx ho hL hp hpk hwh hE
  have H4 := Lib.hid (four_new w (.slice A n c))
  refine (callsIn_wide (n := 6)).1 (callsIn_of_wp_marks Try.func18 rfl trivial ?_ rfl)
  simp only [Try.ntmps18, List.size_toArray, List.length_cons, List.length_nil, Nat.reduceAdd, Nat.reduceSub, Array.replicate_succ, Array.replicate_zero, List.push_toArray, List.append_toArray, List.nil_append, List.cons_append]
  refine wpIn_wide.2 ?_
  go_wp2_with fail
  generalize (((w.alloc (.cells #[.slice A n c] 32)).alloc (.cells #[.int .u32 0] 34)).alloc (.cells #[.int .i64 0] 3)).alloc (.cells #[.int .i64 0] 26) = w0 at *
  generalize hs0 : w.heap.size = g at *
  refine (HLen.out w0 H4.out.bel).mono ?_
  rintro e w1 ⟨rfl, d, rfl⟩
  have k0 := H4.out.b0.cell 0; have k1 := H4.out.b1.cell 0; have k2 := H4.out.b2.cell 0; have k3 := H4.out.b3.cell 0; have f1 := H4.out.b1.frozen 0; have f2 := H4.out.b2.frozen 0; have f3 := H4.out.b3.frozen 0
  simp only [List.getElem?_toArray, List.getElem?_cons_zero] at k0 k1 k2 k3
  have H5 := Lib.hid (((H4.out.drewN d).set7 (.int .i64 N)).set8 (.int .i64 0))
  clear H4 HLen
  subst h0
  go_wp2_with fail
  generalize ((w0.drewN d).setCell ⟨g + 1 + 1, 0, none⟩ (.int .i64 (N : Int))).setCell ⟨g + 1 + 1 + 1, 0, none⟩ (.int .i64 0) = w2 at *
  refine (HKd.out w2 H5.out.bel).mono ?_
  rintro e w4 ⟨rfl, d4, hw4⟩
  have H7 := Lib.hid (H5.out.drewN d4)
  rw [← hw4] at H7
  clear H5 HKd hw4 k0 k1 k2 k3 f1 f2 f3
  have k0 := H7.out.b0.cell 0; have k1 := H7.out.b1.cell 0; have k2 := H7.out.b2.cell 0; have k3 := H7.out.b3.cell 0; have f1 := H7.out.b1.frozen 0; have f2 := H7.out.b2.frozen 0; have f3 := H7.out.b3.frozen 0
  simp only [List.getElem?_toArray, List.getElem?_cons_zero] at k0 k1 k2 k3
  go_wp2_with fail
  refine (HWh.out w4 H7.out.bel).mono ?_
  rintro e w5 ⟨rfl, hb⟩
  have H8 := Lib.hid (H7.out.later hb)
  clear hb H7 HWh k0 k1 k2 k3 f1 f2 f3
  have k0 := H8.out.b0.cell 0; have k1 := H8.out.b1.cell 0; have k2 := H8.out.b2.cell 0; have k3 := H8.out.b3.cell 0; have f1 := H8.out.b1.frozen 0; have f2 := H8.out.b2.frozen 0; have f3 := H8.out.b3.frozen 0
  simp only [List.getElem?_toArray, List.getElem?_cons_zero] at k0 k1 k2 k3
  have H9 := Lib.hid ((((H8.out.set6 (.int .u32 0)).set7 (.int .i64 0)).set8 (.int .i64 E)))
  go_wp2_with fail
  generalize ((w5.setCell ⟨g + 1, 0, none⟩ (.int .u32 0)).setCell ⟨g + 1 + 1, 0, none⟩ (.int .i64 0)).setCell ⟨g + 1 + 1 + 1, 0, none⟩ (.int .i64 E) = W9 at *
  exact ⟨_, op_results H9.out rfl rfl rfl, rfl, by rw [hs0]; exact H9.out.bel⟩
set_option maxRecDepth 100000 in
set_option maxHeartbeats 4000000 in
theorem open_whole
    (A KA : Option Addr) (n c m kc : Nat) (xs : List Int) (L : List AK) (now : Int) (w : World) (hx : Reads w w.heap.size 1 A n (u8s xs)) (ho : Oct xs) (hc : n ≤ c) (hm : c ≤ 9223372036854775807) (hn : n ≤ 1099511627000)
    (hL : Keys w KA m L) (hkc : m ≤ kc) (hkm : kc ≤ 9223372036854775807)
    (N : Nat) (E : Int) (h0 : 0 < m) (hp : pkLen xs = ((N : Int), 0)) (hck : checkOf L = (0, 0)) (hpk : pkKind xs = 1) (hkd : kind0 L = 1) (hwh : wholeOf xs N = E) (hE : E ≠ 0) :
    Calls Try.prog 18 #[.slice A n c, .slice KA m kc, .int .i64 now] w fun e w' => e = .returned (.tuple #[.int .u32 0, .int .i64 0, .int .i64 E]) ∧ Below w.heap.size w w' := by
  obtain ⟨h24, hNn⟩ := pkLen_ok (xs := xs) (by rw [hp])
  rw [hp] at h24 hNn
  simp only at h24 hNn
  rw [hx.u8len] at hNn
  have HLen : Hid (∀ W : World, Below w.heap.size w W → Calls Try.prog 41 #[.slice A n c] W fun e w' => PkAt W w' ((N : Int), 0) e) := fun W hb => by
    have := length_any A n c xs W W.heap.size (hx.later hb) ho hc hm
    rwa [hp] at this
  have HCk : Hid (∀ W : World, Below w.heap.size w W → Calls Try.prog 12 #[.slice KA m kc] W fun e w' => CkAt W w' (0, 0) e) := fun W hb => by
    have := check_any KA m kc L W (hL.later hb) hkc (by omega)
    rwa [hck] at this
  have HKd : Hid (∀ W : World, Below w.heap.size w W → Calls Try.prog 42 #[.slice A n c] W fun e w' => e = .returned (.int .u16 1) ∧ ∃ k, w' = W.drewN k) := fun W hb => by
    have := kind_any A n c xs W W.heap.size (hx.later hb) ho (by omega) hc hm
    rwa [hpk] at this
  have HWh : Hid (∀ W : World, Below w.heap.size w W → Calls Try.prog 44 #[.slice A n c, .int .i64 (N : Int)] W fun e w' => e = .returned (.int .i64 E) ∧ Below W.heap.size W w') := fun W hb => by
    have := whole_any A n c xs N W (hx.later hb) ho hc hm (by omega)
    rwa [hwh] at this
  obtain ⟨kad, rfl⟩ : ∃ ad, KA = some ad := by obtain ⟨ad, e, _⟩ := hL.row.2 (by omega); exact ⟨ad, e⟩
  have HF1 : Hid (∀ W : World, Below w.heap.size w W → W.cell? ⟨kad.block, kad.off + 1, none⟩ = some (.int .u16 1)) := fun W hb => by
    have := (hL.later hb).first h0
    rwa [hkd] at this
  have hE' : (E == 0) = false := by simpa using hE
  have hE'' : (E != 0) = true := by simpa using hE
  have hm0 : (0 : Int) < (m : Int) := by omega
  clear hx ho hL hp hck hpk hkd hwh hE
  have H4 := Lib.hid (four_new w (.slice A n c))
  refine (callsIn_wide (n := 6)).1 (callsIn_of_wp_marks Try.func18 rfl trivial ?_ rfl)
  simp only [Try.ntmps18, List.size_toArray, List.length_cons, List.length_nil, Nat.reduceAdd, Nat.reduceSub, Array.replicate_succ, Array.replicate_zero, List.push_toArray, List.append_toArray, List.nil_append, List.cons_append]
  refine wpIn_wide.2 ?_
  go_wp2_with fail
  generalize (((w.alloc (.cells #[.slice A n c] 32)).alloc (.cells #[.int .u32 0] 34)).alloc (.cells #[.int .i64 0] 3)).alloc (.cells #[.int .i64 0] 26) = w0 at *
  generalize hs0 : w.heap.size = g at *
  refine (HLen.out w0 H4.out.bel).mono ?_
  rintro e w1 ⟨rfl, d, rfl⟩
  have k0 := H4.out.b0.cell 0; have k1 := H4.out.b1.cell 0; have k2 := H4.out.b2.cell 0; have k3 := H4.out.b3.cell 0; have f1 := H4.out.b1.frozen 0; have f2 := H4.out.b2.frozen 0; have f3 := H4.out.b3.frozen 0
  simp only [List.getElem?_toArray, List.getElem?_cons_zero] at k0 k1 k2 k3
  have H5 := Lib.hid (((H4.out.drewN d).set7 (.int .i64 N)).set8 (.int .i64 0))
  clear H4 HLen
  go_wp2_with fail
  generalize ((w0.drewN d).setCell ⟨g + 1 + 1, 0, none⟩ (.int .i64 (N : Int))).setCell ⟨g + 1 + 1 + 1, 0, none⟩ (.int .i64 0) = w2 at *
  clear k0 k1 k2 k3 f1 f2 f3
  refine (HCk.out w2 H5.out.bel).mono ?_
  rintro e w3 ⟨rfl, hb⟩
  have H6 := Lib.hid (H5.out.later hb)
  clear hb H5 HCk
  have k0 := H6.out.b0.cell 0; have k1 := H6.out.b1.cell 0; have k2 := H6.out.b2.cell 0; have k3 := H6.out.b3.cell 0; have f1 := H6.out.b1.frozen 0; have f2 := H6.out.b2.frozen 0; have f3 := H6.out.b3.frozen 0
  simp only [List.getElem?_toArray, List.getElem?_cons_zero] at k0 k1 k2 k3
  have q1 := HF1.out w3 H6.out.bel
  go_wp2_with fail
  refine (HKd.out w3 H6.out.bel).mono ?_
  rintro e w4 ⟨rfl, d4, hw4⟩
  have H7 := Lib.hid (H6.out.drewN d4)
  rw [← hw4] at H7
  clear H6 HKd HF1 q1 hw4 k0 k1 k2 k3 f1 f2 f3
  have k0 := H7.out.b0.cell 0; have k1 := H7.out.b1.cell 0; have k2 := H7.out.b2.cell 0; have k3 := H7.out.b3.cell 0; have f1 := H7.out.b1.frozen 0; have f2 := H7.out.b2.frozen 0; have f3 := H7.out.b3.frozen 0
  simp only [List.getElem?_toArray, List.getElem?_cons_zero] at k0 k1 k2 k3
  go_wp2_with fail
  refine (HWh.out w4 H7.out.bel).mono ?_
  rintro e w5 ⟨rfl, hb⟩
  have H8 := Lib.hid (H7.out.later hb)
  clear hb H7 HWh k0 k1 k2 k3 f1 f2 f3
  have k0 := H8.out.b0.cell 0; have k1 := H8.out.b1.cell 0; have k2 := H8.out.b2.cell 0; have k3 := H8.out.b3.cell 0; have f1 := H8.out.b1.frozen 0; have f2 := H8.out.b2.frozen 0; have f3 := H8.out.b3.frozen 0
  simp only [List.getElem?_toArray, List.getElem?_cons_zero] at k0 k1 k2 k3
  have H9 := Lib.hid ((((H8.out.set6 (.int .u32 0)).set7 (.int .i64 0)).set8 (.int .i64 E)))
  go_wp2_with fail
  generalize ((w5.setCell ⟨g + 1, 0, none⟩ (.int .u32 0)).setCell ⟨g + 1 + 1, 0, none⟩ (.int .i64 0)).setCell ⟨g + 1 + 1 + 1, 0, none⟩ (.int .i64 E) = W9 at *
  exact ⟨_, op_results H9.out rfl rfl rfl, rfl, by rw [hs0]; exact H9.out.bel⟩
set_option maxRecDepth 100000 in
set_option maxHeartbeats 4000000 in
theorem open_null
    (A KA : Option Addr) (n c m kc : Nat) (xs : List Int) (L : List AK) (now : Int) (w : World) (hx : Reads w w.heap.size 1 A n (u8s xs)) (ho : Oct xs) (hc : n ≤ c) (hm : c ≤ 9223372036854775807) (hn : n ≤ 1099511627000)
    (hL : Keys w KA m L) (hkc : m ≤ kc) (hkm : kc ≤ 9223372036854775807)
    (N : Nat) (h0 : m = 0) (hp : pkLen xs = ((N : Int), 0)) (hpk : pkKind xs = 0) (hwh : wholeOf xs N = 0) :
    Calls Try.prog 18 #[.slice A n c, .slice KA m kc, .int .i64 now] w fun e w' => e = .returned (.tuple #[.int .u32 0, .int .i64 N, .int .i64 0]) ∧ Below w.heap.size w w' := by
  obtain ⟨h24, hNn⟩ := pkLen_ok (xs := xs) (by rw [hp])
  rw [hp] at h24 hNn
  simp only at h24 hNn
  rw [hx.u8len] at hNn
  have HLen : Hid (∀ W : World, Below w.heap.size w W → Calls Try.prog 41 #[.slice A n c] W fun e w' => PkAt W w' ((N : Int), 0) e) := fun W hb => by
    have := length_any A n c xs W W.heap.size (hx.later hb) ho hc hm
    rwa [hp] at this
  have HKd : Hid (∀ W : World, Below w.heap.size w W → Calls Try.prog 42 #[.slice A n c] W fun e w' => e = .returned (.int .u16 0) ∧ ∃ k, w' = W.drewN k) := fun W hb => by
    have := kind_any A n c xs W W.heap.size (hx.later hb) ho (by omega) hc hm
    rwa [hpk] at this
  have HWh : Hid (∀ W : World, Below w.heap.size w W → Calls Try.prog 44 #[.slice A n c, .int .i64 (N : Int)] W fun e w' => e = .returned (.int .i64 0) ∧ Below W.heap.size W w') := fun W hb => by
    have := whole_any A n c xs N W (hx.later hb) ho hc hm (by omega)
    rwa [hwh] at this
  clear hx ho hL hp hpk hwh
  have H4 := Lib.hid (four_new w (.slice A n c))
  refine (callsIn_wide (n := 6)).1 (callsIn_of_wp_marks Try.func18 rfl trivial ?_ rfl)
  simp only [Try.ntmps18, List.size_toArray, List.length_cons, List.length_nil, Nat.reduceAdd, Nat.reduceSub, Array.replicate_succ, Array.replicate_zero, List.push_toArray, List.append_toArray, List.nil_append, List.cons_append]
  refine wpIn_wide.2 ?_
  go_wp2_with fail
  generalize (((w.alloc (.cells #[.slice A n c] 32)).alloc (.cells #[.int .u32 0] 34)).alloc (.cells #[.int .i64 0] 3)).alloc (.cells #[.int .i64 0] 26) = w0 at *
  generalize hs0 : w.heap.size = g at *
  refine (HLen.out w0 H4.out.bel).mono ?_
  rintro e w1 ⟨rfl, d, rfl⟩
  have k0 := H4.out.b0.cell 0; have k1 := H4.out.b1.cell 0; have k2 := H4.out.b2.cell 0; have k3 := H4.out.b3.cell 0; have f1 := H4.out.b1.frozen 0; have f2 := H4.out.b2.frozen 0; have f3 := H4.out.b3.frozen 0
  simp only [List.getElem?_toArray, List.getElem?_cons_zero] at k0 k1 k2 k3
  have H5 := Lib.hid (((H4.out.drewN d).set7 (.int .i64 N)).set8 (.int .i64 0))
  clear H4 HLen
  subst h0
  go_wp2_with fail
  generalize ((w0.drewN d).setCell ⟨g + 1 + 1, 0, none⟩ (.int .i64 (N : Int))).setCell ⟨g + 1 + 1 + 1, 0, none⟩ (.int .i64 0) = w2 at *
  refine (HKd.out w2 H5.out.bel).mono ?_
  rintro e w4 ⟨rfl, d4, hw4⟩
  have H7 := Lib.hid (H5.out.drewN d4)
  rw [← hw4] at H7
  clear H5 HKd hw4 k0 k1 k2 k3 f1 f2 f3
  have k0 := H7.out.b0.cell 0; have k1 := H7.out.b1.cell 0; have k2 := H7.out.b2.cell 0; have k3 := H7.out.b3.cell 0; have f1 := H7.out.b1.frozen 0; have f2 := H7.out.b2.frozen 0; have f3 := H7.out.b3.frozen 0
  simp only [List.getElem?_toArray, List.getElem?_cons_zero] at k0 k1 k2 k3
  go_wp2_with fail
  refine (HWh.out w4 H7.out.bel).mono ?_
  rintro e w5 ⟨rfl, hb⟩
  have H8 := Lib.hid (H7.out.later hb)
  clear hb H7 HWh k0 k1 k2 k3 f1 f2 f3
  have k0 := H8.out.b0.cell 0; have k1 := H8.out.b1.cell 0; have k2 := H8.out.b2.cell 0; have k3 := H8.out.b3.cell 0; have f1 := H8.out.b1.frozen 0; have f2 := H8.out.b2.frozen 0; have f3 := H8.out.b3.frozen 0
  simp only [List.getElem?_toArray, List.getElem?_cons_zero] at k0 k1 k2 k3
  have H9 := Lib.hid ((((H8.out.set6 (.int .u32 0)).set7 (.int .i64 (N : Int))).set8 (.int .i64 0)).drew)
  go_wp2_with fail
  go_region
  go_wp2
  generalize (((w5.setCell ⟨g + 1, 0, none⟩ (.int .u32 0)).setCell ⟨g + 1 + 1, 0, none⟩ (.int .i64 (N : Int))).setCell ⟨g + 1 + 1 + 1, 0, none⟩ (.int .i64 0)).drew = W9 at *
  exact ⟨_, op_results H9.out rfl rfl rfl, rfl, by rw [hs0]; exact H9.out.bel⟩
theorem opOut_plOut (xs : List Int) (L : List AK) (now : Int) (N : Nat) : opOut xs L now N = plOut xs L now N := by
  have h : (takenTo L now L.length).any (fun k => pw k.1.bs == (xs.drop 16).take 8) = L.any (pwB xs now) := by
    rw [Bool.eq_iff_iff]
    simp only [List.any_eq_true]
    unfold takenTo
    rw [List.take_of_length_le (by simp)]
    constructor
    · rintro ⟨y, hy, h1⟩
      refine ⟨y.1, y.2, ?_⟩
      unfold pwB
      rw [(List.mem_filter.1 hy).2]
      simpa using h1
    · rintro ⟨k, hk, h1⟩
      unfold pwB at h1
      simp only [Bool.and_eq_true, decide_eq_true_eq] at h1
      exact ⟨⟨k, hk⟩, List.mem_filter.2 ⟨List.mem_attach _ _, h1.1⟩, by simpa using h1.2⟩
  unfold opOut plOut
  rw [h]
theorem keys_nil {w : World} {KA : Option Addr} {m : Nat} {L : List AK} (hL : Keys w KA m L) (h : m = 0) : L = [] := List.eq_nil_of_length_eq_zero (by rw [hL.len, h])
theorem kind_le {w : World} {KA : Option Addr} {m : Nat} {L : List AK} (hL : Keys w KA m L) : 0 ≤ kind0 L ∧ kind0 L ≤ 65535 := by
  cases L with
  | nil => exact ⟨Int.le_refl 0, by decide⟩
  | cons k r => exact (hL.ok k (by simp)).kind
theorem pkLen_nat {xs : List Int} (h : (pkLen xs).2 = 0) : pkLen xs = (((pkLen xs).1.toNat : Int), 0) := by
  have h1 := (pkLen_ok h).1
  rw [Int.toNat_of_nonneg (by omega)]
  exact Prod.ext rfl h
theorem pkLen_bad {xs : List Int} (h : (pkLen xs).2 ≠ 0) : pkLen xs = (0, (pkLen xs).2) := by
  unfold pkLen at h ⊢
  split
  · rfl
  · split
    · rfl
    · split
      · rfl
      · split
        · rfl
        · rename_i h1 h2 h3 h4
          rw [if_neg h1, if_neg h2, if_neg h3, if_neg h4] at h
          exact absurd rfl h
section
variable {xs : List Int} {L : List AK} {now : Int} {N : Nat}
theorem oo_len (hE : (pkLen xs).2 ≠ 0) : openOf xs L now = (0, 0, (pkLen xs).2) := by unfold openOf; rw [if_pos hE]
theorem oo_chk (hp : pkLen xs = ((N : Int), 0)) (h0 : 0 < L.length) (hC : (checkOf L).1 ≠ 0) : openOf xs L now = (0, 0, 26) := by unfold openOf; rw [if_neg (by rw [hp]; simp), if_pos ⟨h0, hC⟩]
theorem oo_kind (hp : pkLen xs = ((N : Int), 0)) (hC : ¬ (0 < L.length ∧ (checkOf L).1 ≠ 0)) (hK : pkKind xs ≠ kind0 L) : openOf xs L now = (0, 0, 25) := by unfold openOf; rw [if_neg (by rw [hp]; simp), if_neg hC, if_pos hK]
theorem oo_dig (hp : pkLen xs = ((N : Int), 0)) (hC : ¬ (0 < L.length ∧ (checkOf L).1 ≠ 0)) (hK : pkKind xs = kind0 L) (h2 : kind0 L = 2) : openOf xs L now = digOf xs N L now := by unfold openOf; rw [if_neg (by rw [hp]; simp), if_neg hC, if_neg (by simp [hK]), if_pos h2, hp]; simp
theorem oo_whole (hp : pkLen xs = ((N : Int), 0)) (hC : ¬ (0 < L.length ∧ (checkOf L).1 ≠ 0)) (hK : pkKind xs = kind0 L) (h2 : kind0 L ≠ 2) (hW : wholeOf xs N ≠ 0) : openOf xs L now = (0, 0, wholeOf xs N) := by
  unfold openOf; rw [if_neg (by rw [hp]; simp), if_neg hC, if_neg (by simp [hK]), if_neg h2, hp]
  simp only
  rw [if_pos hW]
theorem oo_null (hp : pkLen xs = ((N : Int), 0)) (hC : ¬ (0 < L.length ∧ (checkOf L).1 ≠ 0)) (hK : pkKind xs = kind0 L) (h2 : kind0 L = 0) (hW : wholeOf xs N = 0) : openOf xs L now = (0, (N : Int), 0) := by
  unfold openOf; rw [if_neg (by rw [hp]; simp), if_neg hC, if_neg (by simp [hK]), if_neg (by omega), hp]
  simp only
  rw [if_neg (by omega), if_pos h2]
theorem oo_plain (hp : pkLen xs = ((N : Int), 0)) (hC : ¬ (0 < L.length ∧ (checkOf L).1 ≠ 0)) (hK : pkKind xs = kind0 L) (h2 : kind0 L = 1) (hW : wholeOf xs N = 0) : openOf xs L now = if L.any (pwB xs now) then (0, (N : Int), 0) else (0, 0, 26) := by
  unfold openOf; rw [if_neg (by rw [hp]; simp), if_neg hC, if_neg (by simp [hK]), if_neg (by omega), hp]
  simp only
  rw [if_neg (by omega), if_neg (by omega)]
theorem pl_at {w w' : World} {e : Ending} (h : e = .returned (plOut xs L now N)) (hb : Below w.heap.size w w') : DgAt w w' (if L.any (pwB xs now) then (0, (N : Int), 0) else (0, 0, 26)) e := by
  refine ⟨?_, hb⟩
  rw [h]
  unfold plOut
  split <;> rfl
end
set_option maxHeartbeats 1000000 in
theorem open_any
    (A KA : Option Addr) (n c m kc : Nat) (xs : List Int) (L : List AK) (now : Int) (w : World) (hx : Reads w w.heap.size 1 A n (u8s xs)) (ho : Oct xs) (hc : n ≤ c) (hm : c ≤ 9223372036854775807) (hn : n ≤ 1099511627000)
    (hL : Keys w KA m L) (hkc : m ≤ kc) (hkm : kc ≤ 9223372036854775807) (hkn : ∀ k ∈ L, k.n ≤ 1099511627000) :
    Calls Try.prog 18 #[.slice A n c, .slice KA m kc, .int .i64 now] w fun e w' => DgAt w w' (openOf xs L now) e := by
  by_cases hE : (pkLen xs).2 = 0
  · have hp := pkLen_nat hE
    obtain ⟨N, hN⟩ : ∃ N, N = (pkLen xs).1.toNat := ⟨_, rfl⟩
    rw [← hN] at hp
    by_cases h0 : m = 0
    · have hLn := keys_nil hL h0
      have hk0 : kind0 L = 0 := by rw [hLn]; rfl
      have hC : ¬ (0 < L.length ∧ (checkOf L).1 ≠ 0) := by rw [hLn]; simp
      by_cases hK : pkKind xs = 0
      · by_cases hW : wholeOf xs N = 0
        · exact (open_null A KA n c m kc xs L now w hx ho hc hm hn hL hkc hkm N h0 hp hK hW).mono fun e w' ⟨h1, h2⟩ => dgAt (p := (0, (N : Int), 0)) ⟨h1, h2⟩ (oo_null hp hC (hK.trans hk0.symm) hk0 hW)
        · exact (open_whole0 A KA n c m kc xs L now w hx ho hc hm hn hL hkc hkm N _ h0 hp hK rfl hW).mono fun e w' ⟨h1, h2⟩ => dgAt (p := (0, 0, wholeOf xs N)) ⟨h1, h2⟩ (oo_whole hp hC (hK.trans hk0.symm) (by omega) hW)
      · exact (open_kind0 A KA n c m kc xs L now w hx ho hc hm hn hL hkc hkm N _ h0 hp rfl hK).mono fun e w' ⟨h1, h2⟩ => dgAt (p := (0, 0, 25)) ⟨h1, h2⟩ (oo_kind hp hC (by omega))
    · have h0' : 0 < m := by omega
      have hl0 : 0 < L.length := by rw [hL.len]; exact h0'
      by_cases hC : (checkOf L).1 = 0
      · have hck := check_two hC
        have hC' : ¬ (0 < L.length ∧ (checkOf L).1 ≠ 0) := fun h => h.2 hC
        by_cases hK : pkKind xs = kind0 L
        · rcases check_kind hl0 hC with h1 | h2
          · by_cases hW : wholeOf xs N = 0
            · exact (open_plain A KA n c m kc N xs L now w hx ho hc hm (by omega) hL hkc hkm h0' hp hck h1 (hK.trans h1) hW).mono fun e w' ⟨h3, h4⟩ => dgAt (pl_at (by rw [h3, opOut_plOut]) h4) (oo_plain hp hC' hK h1 hW)
            · exact (open_whole A KA n c m kc xs L now w hx ho hc hm hn hL hkc hkm N _ h0' hp hck (hK.trans h1) h1 rfl hW).mono fun e w' ⟨h3, h4⟩ => dgAt (p := (0, 0, wholeOf xs N)) ⟨h3, h4⟩ (oo_whole hp hC' hK (by omega) hW)
          · exact (open_dig A KA n c m kc xs L now w hx ho hc hm hn hL hkc hkm N _ _ _ h0' hp hck (hK.trans h2) h2 (Prod.ext rfl (Prod.ext rfl rfl))).mono fun e w' ⟨h3, h4⟩ => dgAt (p := digOf xs N L now) ⟨h3, h4⟩ (oo_dig hp hC' hK h2)
        · exact (open_kind A KA n c m kc xs L now w hx ho hc hm hn hL hkc hkm N _ _ h0' hp hck rfl rfl hK).mono fun e w' ⟨h1, h2⟩ => dgAt (p := (0, 0, 25)) ⟨h1, h2⟩ (oo_kind hp hC' hK)
      · exact (open_chk A KA n c m kc xs L now w hx ho hc hm hn hL hkc hkm N _ _ h0' hp rfl hC).mono fun e w' ⟨h1, h2⟩ => dgAt (p := (0, 0, 26)) ⟨h1, h2⟩ (oo_chk hp hl0 hC)
  · exact (open_len A KA n c m kc xs L now w hx ho hc hm hn hL hkc hkm _ (pkLen_bad hE) hE).mono fun e w' ⟨h1, h2⟩ => dgAt (p := (0, 0, (pkLen xs).2)) ⟨h1, h2⟩ (oo_len hE)
set_option maxHeartbeats 1000000 in
theorem refOpen_any
    (A KA : Option Addr) (n c m kc : Nat) (xs : List Int) (L : List AK) (now : Int) (w : World) (hx : Reads w w.heap.size 1 A n (u8s xs)) (ho : Oct xs) (hc : n ≤ c) (hm : c ≤ 9223372036854775807) (hn : n ≤ 1099511627000)
    (hL : Keys w KA m L) (hkc : m ≤ kc) (hkm : kc ≤ 9223372036854775807) (hkn : ∀ k ∈ L, k.n ≤ 1099511627000) :
    Calls Try.prog 19 #[.slice A n c, .slice KA m kc, .int .i64 now] w fun e w' => DgAt w w' (openOf xs L now) e := by
  by_cases hE : (pkLen xs).2 = 0
  · have hp := pkLen_nat hE
    obtain ⟨N, hN⟩ : ∃ N, N = (pkLen xs).1.toNat := ⟨_, rfl⟩
    rw [← hN] at hp
    by_cases h0 : m = 0
    · have hLn := keys_nil hL h0
      have hk0 : kind0 L = 0 := by rw [hLn]; rfl
      have hC : ¬ (0 < L.length ∧ (checkOf L).1 ≠ 0) := by rw [hLn]; simp
      by_cases hK : pkKind xs = 0
      · by_cases hW : wholeOf xs N = 0
        · exact (refOpen_null A KA n c m kc xs L now w hx ho hc hm hn hL hkc hkm N h0 hp hK hW).mono fun e w' ⟨h1, h2⟩ => dgAt (p := (0, (N : Int), 0)) ⟨h1, h2⟩ (oo_null hp hC (hK.trans hk0.symm) hk0 hW)
        · exact (refOpen_whole0 A KA n c m kc xs L now w hx ho hc hm hn hL hkc hkm N _ h0 hp hK rfl hW).mono fun e w' ⟨h1, h2⟩ => dgAt (p := (0, 0, wholeOf xs N)) ⟨h1, h2⟩ (oo_whole hp hC (hK.trans hk0.symm) (by omega) hW)
      · exact (refOpen_kind0 A KA n c m kc xs L now w hx ho hc hm hn hL hkc hkm N _ h0 hp rfl hK).mono fun e w' ⟨h1, h2⟩ => dgAt (p := (0, 0, 25)) ⟨h1, h2⟩ (oo_kind hp hC (by omega))
    · have h0' : 0 < m := by omega
      have hl0 : 0 < L.length := by rw [hL.len]; exact h0'
      by_cases hC : (checkOf L).1 = 0
      · have hck := check_two hC
        have hC' : ¬ (0 < L.length ∧ (checkOf L).1 ≠ 0) := fun h => h.2 hC
        by_cases hK : pkKind xs = kind0 L
        · rcases check_kind hl0 hC with h1 | h2
          · by_cases hW : wholeOf xs N = 0
            · exact (refOpen_plain A KA n c m kc xs L now w hx ho hc hm hn hL hkc hkm N hkn h0' hp hck (hK.trans h1) h1 hW).mono fun e w' ⟨h3, h4⟩ => dgAt (pl_at (h3) h4) (oo_plain hp hC' hK h1 hW)
            · exact (refOpen_whole A KA n c m kc xs L now w hx ho hc hm hn hL hkc hkm N _ h0' hp hck (hK.trans h1) h1 rfl hW).mono fun e w' ⟨h3, h4⟩ => dgAt (p := (0, 0, wholeOf xs N)) ⟨h3, h4⟩ (oo_whole hp hC' hK (by omega) hW)
          · exact (refOpen_dig A KA n c m kc xs L now w hx ho hc hm hn hL hkc hkm N _ _ _ h0' hp hck (hK.trans h2) h2 (Prod.ext rfl (Prod.ext rfl rfl))).mono fun e w' ⟨h3, h4⟩ => dgAt (p := digOf xs N L now) ⟨h3, h4⟩ (oo_dig hp hC' hK h2)
        · exact (refOpen_kind A KA n c m kc xs L now w hx ho hc hm hn hL hkc hkm N _ _ h0' hp hck rfl rfl (kind_le hL) hK).mono fun e w' ⟨h1, h2⟩ => dgAt (p := (0, 0, 25)) ⟨h1, h2⟩ (oo_kind hp hC' hK)
      · exact (refOpen_chk A KA n c m kc xs L now w hx ho hc hm hn hL hkc hkm N _ _ h0' hp rfl hC).mono fun e w' ⟨h1, h2⟩ => dgAt (p := (0, 0, 26)) ⟨h1, h2⟩ (oo_chk hp hl0 hC)
  · exact (refOpen_len A KA n c m kc xs L now w hx ho hc hm hn hL hkc hkm _ (pkLen_bad hE) hE).mono fun e w' ⟨h1, h2⟩ => dgAt (p := (0, 0, (pkLen xs).2)) ⟨h1, h2⟩ (oo_len hE)
end Go.Proofs.Ytkgdeneonobibaa
