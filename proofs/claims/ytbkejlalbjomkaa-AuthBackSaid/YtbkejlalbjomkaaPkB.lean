/-
  What reads packets: pieces of bytes, what is not whole is thrown, lists of heads.
  The packet that is read into, beside a reader; ack.
-/
import Derived.Test.YtbkejlalbjomkaaPk7
namespace Go.Proofs.Ytbkejlalbjomkaa
set_option linter.unusedVariables false
open Go.RowKit

@[reducible] def thrown (k : Int) : Ending := .panicked [{ v := .iface 40 (.int .i64 k), recovered := false }]
/-- The bytes that a call of Bytes hands. -/
def Rd.bytes (s : Rd) (k : Int) : List Int := ((s.next k).1).getD []
theorem rr_take (w0 w : World) (g : Nat) (q : Rq) (s : Rd) (h : RR w0 w g q s) (k : Nat) (hk : k ≤ 1073741824) :
    Calls Try.prog 52 #[.pointer (some ⟨g, 0, none⟩), .int .i64 (k : Int)] w fun e w' => ∃ v, e = .returned v ∧ w'.ownsRow w.heap.size 5 1 v (s.bytes k).length (u8s (s.bytes k)) ∧ RR w0 w' g q (s.next k).2 ∧ Kept (fun i => i = g) w w' := by
  have HN := next_any w g q.A q.n q.c s k h.rs (by omega) (by omega)
  have HN2 : Hid (Calls Try.prog 85 #[.pointer (some ⟨g, 0, none⟩), .int .i64 (k : Int)] w fun e w' => ∃ A' m b, e = .returned (.tuple #[.slice A' m m, .bool b]) ∧ m ≤ 1073741824 ∧ Reads w' w'.heap.size 1 A' m (u8s (s.bytes k)) ∧ RS w' g q.A q.n q.c (s.next k).2 ∧ Kept (fun i => i = g) w w') := by
    refine HN.mono ?_
    intro e w' hq
    unfold NextPost at hq
    unfold Rd.bytes
    cases hc : (s.next k).1 with
    | some ys =>
      rw [hc] at hq
      obtain ⟨h1, h2, A', he, hr, _⟩ := hq
      simp only [Int.toNat_natCast] at he hr
      exact ⟨A', k, true, he, hk, hr, h1, h2⟩
    | none =>
      rw [hc] at hq
      obtain ⟨h1, h2, he⟩ := hq
      exact ⟨none, 0, false, he, by omega, Reads.none_, h1, h2⟩
  have HR := Lib.hid h
  clear HN h
  go_enter Try.func52, Try.ntmps52
  go_wp2_with fail
  refine HN2.out.mono ?_
  rintro e w1 ⟨A', m, b, rfl, hm, hr, hs, hk⟩
  have H1 := Lib.hid (And.intro hs hk)
  have HQ := Lib.hid hr
  clear hr hs hk
  go_wp2_with fail
  refine (clone_any A' m m (s.bytes k) w1 HQ.out (by omega)).mono ?_
  rintro e w2 ⟨v, rfl, ho, hb⟩
  have H2 := Lib.hid (And.intro ho hb)
  clear ho hb
  go_wp2_with fail
  go_ret
  have hk2 : Kept (fun i => i = g) w w2 := H1.out.2.trans (Kept.of_new H2.out.2 _) (fun _ _ e => e)
  exact ⟨v, rfl, own_mono H2.out.1 H1.out.2.size, ⟨H1.out.1.kept (Kept.of_new H2.out.2 (fun _ => False)) (fun h => h) (fun _ _ _ h => h), by rw [rnext_xs]; exact HR.out.oct, HR.out.g0, HR.out.b.trans (hk2.below (fun i e => e ▸ HR.out.g0) HR.out.b.size)⟩, hk2⟩

theorem mk_errno (k : Int) (W : World) : (Instr.makeInterface 40 (.int .i64 k)).run Try.prog W = .ok (.iface 40 (.int .i64 k)) W := by kernel_rfl
/-- What is not whole is thrown. -/
def WhP (w w' : World) (ok : Prop) (e : Ending) : Prop := ((ok ∧ e = .returned (.tuple #[])) ∨ (¬ ok ∧ e = thrown 22)) ∧ Below w.heap.size w w'
set_option maxHeartbeats 1000000 in
theorem whole_s (w0 w : World) (g : Nat) (q : Rq) (s : Rd) (h : RR w0 w g q s) (b : Bool) :
    Calls Try.prog 58 #[.agg #[.pointer (some ⟨g, 0, none⟩)], .bool b] w fun e w' => WhP w w' (b = true ∧ s.e = 0) e := by
  have hb0 : Below w.heap.size w (w.alloc (.cells #[.pointer (some ⟨g, 0, none⟩)] 101)) := (Below.refl _ _).alloc (Nat.le_refl _) _
  have HB := Lib.hid hb0
  have HR := Lib.hid (h.later hb0)
  have hmi := fun W => mk_errno 22 W
  clear hb0 h
  cases b with
  | false =>
    go_enter Try.func58, Try.ntmps58
    go_wp2_with fail
    exact ⟨rfl, .inr ⟨fun h => by simp at h, rfl⟩, HB.out⟩
  | true =>
    go_enter Try.func58, Try.ntmps58
    go_wp2_with fail
    refine (rr_err w0 _ g q s HR.out).mono ?_
    rintro e w1 ⟨rfl, rfl⟩
    by_cases he : s.e = 0
    · have HE := Lib.hid he
      rw [he]
      clear he
      go_wp2_with fail
      go_end0
      exact ⟨.inl ⟨by simpa using HE.out, rfl⟩, HB.out⟩
    · have hn : (s.e != 0) = true := by simpa using he
      have HE := Lib.hid he
      clear he
      go_wp2_with fail
      exact ⟨rfl, .inr ⟨fun h => HE.out h.2, rfl⟩, HB.out⟩
theorem el_head : El Try.prog 27 74 8 20 := El.mk' Try.underlying27 (z := .agg #[.int .u16 0, .int .u8 0, .int .u8 0, .int .u32 0, .int .u32 0, .int .i32 0, .int .u16 0, .int .u16 0]) (by kernel_rfl) rfl (by decide)
theorem hd_one (x : Hd) : ∀ u ∈ x.cells, u.oneCell' = true := by
  intro u hu
  simp only [Hd.cells, List.mem_cons, List.not_mem_nil, or_false] at hu
  rcases hu with rfl | rfl | rfl | rfl | rfl | rfl | rfl | rfl <;> rfl
/-- The heads that stand in bytes. -/
def hdsAt (xs : List Int) (pos n : Nat) : List Hd := (List.range n).map fun i => hdAt xs (pos + 20 * i)
theorem hdsAt_len (xs : List Int) (pos n : Nat) : (hdsAt xs pos n).length = n := by simp [hdsAt]
theorem hdsAt_snoc (xs : List Int) (pos n : Nat) : hdsAt xs pos (n + 1) = hdsAt xs pos n ++ [hdAt xs (pos + 20 * n)] := by simp [hdsAt, List.range_succ]
theorem hds_cells (L : List Hd) (x : Hd) : (L ++ [x]).flatMap Hd.cells = L.flatMap Hd.cells ++ x.cells := by simp [List.flatMap_append]
theorem hdAt_drop (xs : List Int) (p : Nat) : hdAt (xs.drop p) 0 = hdAt xs p := by
  unfold hdAt
  simp [List.drop_drop]
theorem rd_take {xs : List Int} {p k : Nat} (h : p + k ≤ xs.length) : (⟨xs, p, 0⟩ : Rd).bytes k = (xs.drop p).take k ∧ ((⟨xs, p, 0⟩ : Rd).next k).2 = ⟨xs, p + k, 0⟩ := by
  unfold Rd.bytes Rd.next
  rw [if_pos rfl, if_neg (by omega), if_neg (by simp only; omega)]
  simp
theorem rd_short {xs : List Int} {p k : Nat} (h : xs.length < p + k) : (⟨xs, p, 0⟩ : Rd).bytes k = [] ∧ ((⟨xs, p, 0⟩ : Rd).next k).2 = ⟨xs, p, 10⟩ := by
  unfold Rd.bytes Rd.next
  rw [if_pos rfl, if_neg (by omega), if_pos (by simp only; omega)]
  simp
def HdsP (w0 w w' : World) (g : Nat) (q : Rq) (xs : List Int) (pos : Nat) (e : Ending) : Prop :=
  ((xs.length - pos) % 20 = 0 ∧ ∃ A c, e = .returned (.slice A ((xs.length - pos) / 20) c) ∧ w'.ownsRow w.heap.size 74 8 (.slice A ((xs.length - pos) / 20) c) ((xs.length - pos) / 20) ((hdsAt xs pos ((xs.length - pos) / 20)).flatMap Hd.cells) ∧ RR w0 w' g q ⟨xs, xs.length, 0⟩ ∧ Kept (fun i => i = g) w w') ∨
  ((xs.length - pos) % 20 ≠ 0 ∧ e = thrown 22 ∧ Below w0.heap.size w0 w' ∧ Kept (fun i => i = g) w w')
def SiBlk (W : World) (gs g : Nat) : Prop := Blk W gs 101 #[.pointer (some ⟨g, 0, none⟩)]
structure HsI (w0 w : World) (g gs : Nat) (q : Rq) (xs : List Int) (pos : Nat) (lv : Value) (W : World) : Prop where
  ex : ∃ i A c, lv = .slice A i c ∧ i ≤ c ∧ c ≤ 9223372036854775807 ∧ pos + 20 * i ≤ xs.length ∧ Hid (RR w0 W g q ⟨xs, pos + 20 * i, 0⟩) ∧ Hid (W.ownsRow w.heap.size 74 8 (.slice A i c) i ((hdsAt xs pos i).flatMap Hd.cells)) ∧ Hid (Kept (fun i => i = g) w W) ∧ Hid (SiBlk W gs g)
set_option maxRecDepth 100000 in
set_option maxHeartbeats 8000000 in
theorem heads_any (w0 w : World) (g : Nat) (q : Rq) (xs : List Int) (pos : Nat) (h : RR w0 w g q ⟨xs, pos, 0⟩) (hp : pos ≤ xs.length) (hn : xs.length ≤ 1073741824) :
    Calls Try.prog 87 #[.agg #[.pointer (some ⟨g, 0, none⟩)]] w fun e w' => HdsP w0 w w' g q xs pos e := by
  have hgl : g < w.heap.size := h.rs.blk.lt
  have HA := Lib.hid (And.intro h.rs.addr h.b.size)
  have hb0 : Below w.heap.size w (w.alloc (.cells #[.pointer (some ⟨g, 0, none⟩)] 101)) := (Below.refl _ _).alloc (Nat.le_refl _) _
  have HR := Lib.hid (h.later hb0)
  have HK := Lib.hid (Kept.of_new hb0 (fun i => i = g))
  have HZ : Hid (SiBlk (w.alloc (.cells #[.pointer (some ⟨g, 0, none⟩)] 101)) w.heap.size g) := Lib.hid (Blk.new _ _ _)
  have HG := Lib.hid hgl
  clear h hgl hb0
  go_enter Try.func87, Try.ntmps87
  go_wp2_with fail
  generalize hgs : w.heap.size = gs at HZ ⊢
  have HGS := Lib.hid hgs
  clear hgs
  generalize w.alloc (.cells #[.pointer (some ⟨g, 0, none⟩)] 101) = w1 at *
  go_loopw [3] (HsI w0 w g gs q xs pos) (fun _ W => rdLeft xs.length W g)
  case atStart => exact ⟨0, none, 0, rfl, by omega, by omega, by omega, HR, Lib.hid (by simp [World.ownsRow, hdsAt]), HK, HZ⟩
  case round =>
    obtain ⟨i, A, c, rfl, hic, hcm, hpi, hR, hO, hK, hZ⟩ := hrel
    clear HR HK HZ
    obtain ⟨p, hpe⟩ : ∃ p, pos + 20 * i = p := ⟨_, rfl⟩
    rw [hpe] at hR hpi
    have HPe := Lib.hid hpe
    have HM : Hid (rdLeft xs.length wr g = 1 + (xs.length - p)) := Lib.hid (by rw [rdLeft_eq hR.out]; simp)
    have s0 : wr.cell? ⟨gs, 0, none⟩ = some (.pointer (some ⟨g, 0, none⟩)) := by have := hZ.out.cell 0; simpa using this
    clear hpe
    go_wp2_with fail
    refine (rr_left w0 wr g q _ hR.out).mono ?_
    rintro e w3 ⟨rfl, k, rfl⟩
    rw [left_of]
    have HR := Lib.hid (hR.out.drewN k)
    have HK := Lib.hid (hK.out.drewN k)
    have HO := Lib.hid (own_kept hO.out ((Kept.refl (fun _ => False) wr).drewN k) (fun _ _ h => h))
    have HZ : Hid (SiBlk (wr.drewN k) gs g) := Lib.hid (hZ.out.drewN k)
    clear hR hK hO hZ
    generalize wr.drewN k = w3 at *
    by_cases hl : p < xs.length
    · have hd : decide ((0 : Int) < (xs.length : Int) - (p : Int)) = true := decide_eq_true (by omega)
      have s0 : w3.cell? ⟨gs, 0, none⟩ = some (.pointer (some ⟨g, 0, none⟩)) := by have := HZ.out.cell 0; simpa using this
      go_wp2_with fail
      refine (rr_take w0 w3 g q _ HR.out 20 (by omega)).mono ?_
      rintro e w4 ⟨v4, rfl, hu, hr, hk⟩
      have HK4 := Lib.hid (HK.out.trans hk (fun _ _ e => e))
      have hgsg : gs ≠ g := by have := HG.out; have := HGS.out; omega
      have HZ4 : Hid (SiBlk w4 gs g) := Lib.hid (HZ.out.kept hk hgsg)
      have HO4 := Lib.hid (own_kept HO.out hk (fun i hi e => by have h1 := (own_ge HO.out hi).1; have h2 := HG.out; have h4 : i = g := e; omega))
      clear s0
      by_cases h20 : p + 20 ≤ xs.length
      · obtain ⟨e1, e2⟩ := rd_take (xs := xs) (p := p) (k := 20) h20
        have hcl : ((xs.drop p).take 20).length = 20 := by rw [List.length_take, List.length_drop]; omega
        rw [show ((20 : Nat) : Int) = 20 from rfl] at e1 e2
        rw [show ((20 : Nat) : Int) = 20 from rfl, e1, hcl] at hu
        rw [show ((20 : Nat) : Int) = 20 from rfl, e2] at hr
        obtain ⟨A4, c4, rfl, hc4, hcm4, hru⟩ := own_shape hu
        have HR4 := Lib.hid hr
        have HU := Lib.hid hru
        have HOc : Hid (Oct ((xs.drop p).take 20)) := Lib.hid ((HR.out.oct.drop p).take 20)
        have hH : rhH ((xs.drop p).take 20) = hdAt xs p := by
          unfold rhH
          rw [if_neg (by omega), hdAt_take (by rw [List.length_drop]; omega), hdAt_drop]
        have hE : rhE ((xs.drop p).take 20) = 0 := by unfold rhE; rw [if_neg (by omega)]
        have HHE := Lib.hid (And.intro hH hE)
        clear hu hr hk hru e1 e2 hcl hH hE hgsg
        go_wp2_with fail
        refine (readHead_any A4 20 c4 ((xs.drop p).take 20) w4 HU.out HOc.out hc4 hcm4 (by omega)).mono ?_
        rintro e w5 ⟨rfl, hb5⟩
        rw [HHE.out.1, HHE.out.2]
        obtain ⟨x, hx⟩ : ∃ x, hdAt xs p = x := ⟨_, rfl⟩
        rw [hx]
        have HX := Lib.hid hx
        clear hx HU HHE
        have HR5 := Lib.hid (HR4.out.later hb5)
        have HK5 := Lib.hid (HK4.out.trans (Kept.of_new hb5 (fun i => i = g)) (fun _ _ e => e))
        have HZ5 : Hid (SiBlk w5 gs g) := Lib.hid (HZ4.out.later hb5)
        have HO5 := Lib.hid (own_kept HO4.out (Kept.of_new hb5 (fun _ => False)) (fun _ _ h => h))
        have hb6 : Below w5.heap.size w5 (w5.alloc (.cells #[.int .u16 x.age, .int .u8 x.opts, .int .u8 x.typ, .int .u32 x.id, .int .u32 x.adv, .int .i32 x.seq, .int .u16 x.sum, .int .u16 x.len] 74)) := (Below.refl _ _).alloc (Nat.le_refl _) _
        have HR6 := Lib.hid (HR5.out.later hb6)
        have HK6 := Lib.hid (HK5.out.trans (Kept.of_new hb6 (fun i => i = g)) (fun _ _ e => e))
        have HZ6 : Hid (SiBlk (w5.alloc (.cells #[.int .u16 x.age, .int .u8 x.opts, .int .u8 x.typ, .int .u32 x.id, .int .u32 x.adv, .int .i32 x.seq, .int .u16 x.sum, .int .u16 x.len] 74)) gs g) := Lib.hid (HZ5.out.later hb6)
        have HO6 := Lib.hid (own_kept HO5.out (Kept.of_new hb6 (fun _ => False)) (fun _ _ h => h))
        have HX6 : Hid (HdBlk (w5.alloc (.cells #[.int .u16 x.age, .int .u8 x.opts, .int .u8 x.typ, .int .u32 x.id, .int .u32 x.adv, .int .i32 x.seq, .int .u16 x.sum, .int .u16 x.len] 74)) w5.heap.size x) := Lib.hid (Blk.new _ _ _)
        have s6 : (w5.alloc (.cells #[.int .u16 x.age, .int .u8 x.opts, .int .u8 x.typ, .int .u32 x.id, .int .u32 x.adv, .int .i32 x.seq, .int .u16 x.sum, .int .u16 x.len] 74)).cell? ⟨gs, 0, none⟩ = some (.pointer (some ⟨g, 0, none⟩)) := by have := HZ6.out.cell 0; simpa using this
        clear hb5 hb6 HR4 HK4 HZ4 HO4 HR5 HK5 HZ5 HO5
        go_wp2_with fail
        clear s6
        generalize w5.heap.size = gh at *
        generalize w5.alloc (.cells #[.int .u16 x.age, .int .u8 x.opts, .int .u8 x.typ, .int .u32 x.id, .int .u32 x.adv, .int .i32 x.seq, .int .u16 x.sum, .int .u16 x.len] 74) = w6 at *
        refine (whole_s w0 w6 g q _ HR6.out true).mono ?_
        rintro e w7 ⟨hor, hb7⟩
        obtain rfl : e = .returned (.tuple #[]) := by
          rcases hor with ⟨_, h⟩ | ⟨h, _⟩
          · exact h
          · exact absurd ⟨rfl, rfl⟩ h
        have HR7 := Lib.hid (HR6.out.later hb7)
        have HK7 := Lib.hid (HK6.out.trans (Kept.of_new hb7 (fun i => i = g)) (fun _ _ e => e))
        have HZ7 : Hid (SiBlk w7 gs g) := Lib.hid (HZ6.out.later hb7)
        have HO7 := Lib.hid (own_kept HO6.out (Kept.of_new hb7 (fun _ => False)) (fun _ _ h => h))
        have hx7 : HdBlk w7 gh x := HX6.out.later hb7
        obtain ⟨b0, b1, b2, b3, b4, b5, b6, b7⟩ := HdBlk.cells hx7
        have hb8 : Below w7.heap.size w7 (w7.alloc (.cells #[.int .u16 x.age, .int .u8 x.opts, .int .u8 x.typ, .int .u32 x.id, .int .u32 x.adv, .int .i32 x.seq, .int .u16 x.sum, .int .u16 x.len] 74)) := (Below.refl _ _).alloc (Nat.le_refl _) _
        have HBl := Blk.new w7 74 #[.int .u16 x.age, .int .u8 x.opts, .int .u8 x.typ, .int .u32 x.id, .int .u32 x.adv, .int .i32 x.seq, .int .u16 x.sum, .int .u16 x.len]
        have HRd : Hid (Reads (w7.alloc (.cells #[.int .u16 x.age, .int .u8 x.opts, .int .u8 x.typ, .int .u32 x.id, .int .u32 x.adv, .int .i32 x.seq, .int .u16 x.sum, .int .u16 x.len] 74)) (w7.alloc (.cells #[.int .u16 x.age, .int .u8 x.opts, .int .u8 x.typ, .int .u32 x.id, .int .u32 x.adv, .int .i32 x.seq, .int .u16 x.sum, .int .u16 x.len] 74)).heap.size 8 (some ⟨w7.heap.size, 0, none⟩) 1 x.cells) := Lib.hid ⟨rfl, fun _ => ⟨_, rfl, HBl.lt, fun j u hu => by rw [add_none, Nat.zero_add, HBl.cell]; simpa [Hd.cells] using hu⟩⟩
        have HR8 := Lib.hid (HR7.out.later hb8)
        have HK8 := Lib.hid (HK7.out.trans (Kept.of_new hb8 (fun i => i = g)) (fun _ _ e => e))
        have HZ8 : Hid (SiBlk (w7.alloc (.cells #[.int .u16 x.age, .int .u8 x.opts, .int .u8 x.typ, .int .u32 x.id, .int .u32 x.adv, .int .i32 x.seq, .int .u16 x.sum, .int .u16 x.len] 74)) gs g) := Lib.hid (HZ7.out.later hb8)
        have HO8 := Lib.hid (own_kept HO7.out (Kept.of_new hb8 (fun _ => False)) (fun _ _ h => h))
        have hbase : w.heap.size ≤ (w7.alloc (.cells #[.int .u16 x.age, .int .u8 x.opts, .int .u8 x.typ, .int .u32 x.id, .int .u32 x.adv, .int .i32 x.seq, .int .u16 x.sum, .int .u16 x.len] 74)).heap.size := HK8.out.size
        have hi20 : 20 * i ≤ xs.length := by have := HPe.out; omega
        clear hor hb7 hb8 hx7 HBl HR6 HK6 HZ6 HO6 HX6 HR7 HK7 HZ7 HO7 HR HK HZ HO
        go_wp2_with (at_builtin; clear b0 b1 b2 b3 b4 b5 b6 b7; generalize w7.heap.size = gy at *; generalize w7.alloc (.cells #[.int .u16 x.age, .int .u8 x.opts, .int .u8 x.typ, .int .u32 x.id, .int .u32 x.adv, .int .i32 x.seq, .int .u16 x.sum, .int .u16 x.len] 74) = w8 at *; go_must (refine wpList_app el_head rfl (.tmp 21) (.tmp 23) rfl HO8.out rfl HRd.out rfl (hd_one _) (by simp only [maxLen]; omega) (by omega) hbase ?_); intro v5 w9 ho9 hb9 hg9 hn9; obtain ⟨A5, c5, hv5, hc5, hcm5, -⟩ := own_shape_n ho9; subst hv5; rw [← hds_cells] at ho9; have H9 := Lib.hid (And.intro ho9 hg9); clear ho9 hb9 hg9 hn9)
        have k9 := Kept.of_grown H9.out.2
        have hog : ∀ j, (Value.slice A i c).ownBlock = some j → w.heap.size ≤ j := fun j hj => (own_ge HO8.out hj).1
        have HR9 := Lib.hid (HR8.out.kept k9 (fun e => by have h1 := hog g e; have h2 := HG.out; omega) (fun hn ad e e' => by have h1 := hog _ e'; have h2 := HA.out.1 hn ad e; omega) (fun j e => by have h1 := hog j e; have h2 := HA.out.2; omega))
        have HK9 := Lib.hid (HK8.out.trans (k9.mono (T := fun j => w.heap.size ≤ j) fun j _ e => hog j e) (fun j hj e => absurd hj (by omega)))
        have HZ9 : Hid (SiBlk w9 gs g) := Lib.hid (HZ8.out.kept k9 (fun e => own_blk_ne HO8.out HZ8.out (by decide) e))
        have hx0 := HX.out
        have HO9 : Hid (w9.ownsRow w.heap.size 74 8 (.slice A5 (i + 1) c5) (i + 1) ((hdsAt xs pos (i + 1)).flatMap Hd.cells)) := Lib.hid (by
          rw [hdsAt_snoc, HPe.out, HX.out]
          exact H9.out.1)
        have HPe2 : p + 20 = pos + 20 * (i + 1) := by have := HPe.out; omega
        clear k9 hog hx0
        go_roundw
        case rel => exact ⟨i + 1, A5, c5, rfl, hc5, hcm5, by omega, by rw [← HPe2]; exact HR9, HO9, HK9, HZ9⟩
        case measure =>
          rw [HM.out, rdLeft_eq HR9.out]
          simp
          omega
      · obtain ⟨e1, e2⟩ := rd_short (xs := xs) (p := p) (k := 20) (by omega)
        rw [show ((20 : Nat) : Int) = 20 from rfl] at e1 e2
        rw [show ((20 : Nat) : Int) = 20 from rfl, e1] at hu
        rw [show ((20 : Nat) : Int) = 20 from rfl, e2] at hr
        obtain ⟨A4, c4, rfl, hc4, hcm4, hru⟩ := own_shape hu
        have HR4 := Lib.hid hr
        have HU := Lib.hid hru
        have hmod : (xs.length - pos) % 20 ≠ 0 := by have := HPe.out; omega
        have HMo := Lib.hid hmod
        clear hu hr hk hru e1 e2 hgsg hmod
        go_wp2_with fail
        refine (readHead_any A4 _ c4 [] w4 HU.out (Oct.of_mem fun x hx => by simp at hx) (Nat.zero_le _) hcm4 (by simp)).mono ?_
        rintro e w5 ⟨rfl, hb5⟩
        rw [show rhE [] = 10 from rfl, show rhH [] = ⟨0, 0, 0, 0, 0, 0, 0, 0⟩ from rfl]
        have HR5 := Lib.hid (HR4.out.later hb5)
        have HZ5 : Hid (SiBlk w5 gs g) := Lib.hid (HZ4.out.later hb5)
        have hb6 : Below w5.heap.size w5 (w5.alloc (.cells #[.int .u16 0, .int .u8 0, .int .u8 0, .int .u32 0, .int .u32 0, .int .i32 0, .int .u16 0, .int .u16 0] 74)) := (Below.refl _ _).alloc (Nat.le_refl _) _
        have HR6 := Lib.hid (HR5.out.later hb6)
        have HZ6 : Hid (SiBlk (w5.alloc (.cells #[.int .u16 0, .int .u8 0, .int .u8 0, .int .u32 0, .int .u32 0, .int .i32 0, .int .u16 0, .int .u16 0] 74)) gs g) := Lib.hid (HZ5.out.later hb6)
        have s6 : (w5.alloc (.cells #[.int .u16 0, .int .u8 0, .int .u8 0, .int .u32 0, .int .u32 0, .int .i32 0, .int .u16 0, .int .u16 0] 74)).cell? ⟨gs, 0, none⟩ = some (.pointer (some ⟨g, 0, none⟩)) := by have := HZ6.out.cell 0; simpa using this
        have HK6 := Lib.hid ((HK4.out.trans (Kept.of_new hb5 (fun i => i = g)) (fun _ _ e => e)).trans (Kept.of_new hb6 (fun i => i = g)) (fun _ _ e => e))
        clear hb5 hb6
        go_wp2_with fail
        refine (whole_s w0 _ g q _ HR6.out false).mono ?_
        rintro e w7 ⟨hor, hb7⟩
        obtain rfl : e = thrown 22 := by
          rcases hor with ⟨h, _⟩ | ⟨_, h⟩
          · exact absurd h.1 (by decide)
          · exact h
        have HB7 := Lib.hid (And.intro (HR6.out.later hb7).b (HK6.out.trans (Kept.of_new hb7 (fun i => i = g)) (fun _ _ e => e)))
        clear hor hb7 s6
        go_wp2_with fail
        exact ⟨rfl, .inr ⟨HMo.out, rfl, HB7.out⟩⟩
    · have hd : decide ((0 : Int) < (xs.length : Int) - (p : Int)) = false := decide_eq_false (by omega)
      have hpx : p = xs.length := by omega
      have hq : (xs.length - pos) / 20 = i ∧ (xs.length - pos) % 20 = 0 := by have := HPe.out; omega
      have HQ := Lib.hid (And.intro hpx hq)
      clear hpx hq
      go_wp2_with fail
      go_ret
      refine .inl ⟨HQ.out.2.2, A, c, by rw [HQ.out.2.1]; rfl, by rw [HQ.out.2.1]; exact HO.out, ?_, HK.out⟩
      have := HR.out
      rw [HQ.out.1] at this
      exact this
end Go.Proofs.Ytbkejlalbjomkaa
namespace Go.Proofs.Ytbkejlalbjomkaa
set_option linter.unusedVariables false
open Go.RowKit

/-- A reader, and a packet that is read into: both new since w0. -/
structure PkF (w0 W : World) (g gp : Nat) (q : Rq) (s : Rd) (C : Array Value) : Prop where
  r : RR w0 W g q s
  k : Blk W gp 33 C
  ne : gp ≠ g
  base : w0.heap.size ≤ gp
  qa : 0 < q.n → ∀ ad, q.A = some ad → ad.block ≠ gp
theorem PkF.later {w0 W W' : World} {g gp : Nat} {q : Rq} {s : Rd} {C : Array Value} (h : PkF w0 W g gp q s C) (hb : Below W.heap.size W W') : PkF w0 W' g gp q s C := ⟨h.r.later hb, h.k.later hb, h.ne, h.base, h.qa⟩
/-- The reader was at work. -/
theorem PkF.step {w0 W W' : World} {g gp : Nat} {q : Rq} {s s' : Rd} {C : Array Value} (h : PkF w0 W g gp q s C) (k : Kept (fun i => i = g) W W') (hr : RR w0 W' g q s') : PkF w0 W' g gp q s' C := ⟨hr, h.k.kept k h.ne, h.ne, h.base, h.qa⟩
/-- A cell of the packet was written. -/
theorem PkF.put {w0 W : World} {g gp : Nat} {q : Rq} {s : Rd} {C : Array Value} (h : PkF w0 W g gp q s C) (i : Nat) (u : Value) : PkF w0 (W.setCell ⟨gp, i, none⟩ u) g gp q s (C.setIfInBounds i u) :=
  ⟨h.r.kept (kept_set W gp i u) (fun e => h.ne e.symm) (fun hn ad e e' => h.qa hn ad e e') (fun j e => by have := h.base; omega), h.k.set_ i u, h.ne, h.base, h.qa⟩
/-- What a part of a packet leaves of the packet, and of the reader. -/
structure PtY (w0 w w' : World) (g gp : Nat) (q : Rq) (s' : Rd) (p : PA) : Prop where
  f : PkF w0 w' g gp q s' p.C
  k : Kept (fun i => i = g ∨ i = gp) w w'
  n : w'.ownsRow w.heap.size 22 1 (.slice p.NA p.nn p.nc) p.nn (u32s p.nb)
  d : w'.ownsRow w.heap.size 74 8 (.slice p.DA p.dn p.dc) p.dn (p.dh.flatMap Hd.cells)
  ks : w'.ownsRow w.heap.size 129 3 (.slice p.KA p.kn p.kc) p.kn (p.ks.flatMap Ky.cells)
  h : w'.ownsRow w.heap.size 74 8 (.slice p.HA p.hn p.hc) p.hn (p.hs.flatMap Hd.cells)
/-- A packet that has but its type and its two numbers. -/
def p0 (t r a : Int) : PA := ⟨t, r, a, 0, 0, 0, 0, 0, 0, 0, none, 0, 0, [], 0, 0, 0, 0, none, 0, 0, [], none, 0, 0, [], none, 0, 0, [], none, 0, 0, []⟩
/-- What is left where something was thrown. -/
def FlP (w0 w w' : World) (g gp : Nat) : Prop := Below w0.heap.size w0 w' ∧ Kept (fun i => i = g ∨ i = gp) w w' ∧ ∃ C, Blk w' gp 33 C ∧ C.size = 19
theorem PkF.fl {w0 w W : World} {g gp : Nat} {q : Rq} {s : Rd} {C : Array Value} (h : PkF w0 W g gp q s C) (k : Kept (fun i => i = g ∨ i = gp) w W) (hc : C.size = 19) : FlP w0 w W g gp := ⟨h.r.b, k, C, h.k, hc⟩
theorem PkF.fl2 {w0 w W W' : World} {g gp : Nat} {q : Rq} {s : Rd} {C : Array Value} (h : PkF w0 W g gp q s C) (k : Kept (fun i => i = g ∨ i = gp) w W) (hc : C.size = 19) (hb : Below W.heap.size W W') : FlP w0 w W' g gp := (h.later hb).fl (k.trans (Kept.of_new hb (fun i => i = g ∨ i = gp)) (fun _ _ e => e)) hc
theorem PkF.fl3 {w0 w W W' : World} {g gp : Nat} {q : Rq} {s : Rd} {C : Array Value} (h : PkF w0 W g gp q s C) (k : Kept (fun i => i = g ∨ i = gp) w W) (hc : C.size = 19) (hb : Below w0.heap.size w0 W') (hk : Kept (fun i => i = g) W W') : FlP w0 w W' g gp := ⟨hb, k.trans (hk.mono (T := fun i => i = g ∨ i = gp) fun i _ e => .inl e) (fun _ _ e => e), C, h.k.kept hk h.ne, hc⟩
def AckP (w0 w w' : World) (g gp : Nat) (q : Rq) (xs : List Int) (pos : Nat) (t r a : Int) (e : Ending) : Prop :=
  ((xs.length - pos) % 20 = 0 ∧ ∃ p : PA, e = .returned (.tuple #[]) ∧ PtY w0 w w' g gp q ⟨xs, xs.length, 0⟩ p ∧ p = { p0 t r a with HA := p.HA, hn := (xs.length - pos) / 20, hc := p.hc, hs := hdsAt xs pos ((xs.length - pos) / 20) }) ∨
  ((xs.length - pos) % 20 ≠ 0 ∧ e = thrown 22 ∧ FlP w0 w w' g gp)
set_option maxRecDepth 100000 in
set_option maxHeartbeats 8000000 in
theorem ack_any (w0 w : World) (g gp : Nat) (q : Rq) (xs : List Int) (pos : Nat) (t r a : Int) (h : PkF w0 w g gp q ⟨xs, pos, 0⟩ (p0 t r a).C) (hp : pos ≤ xs.length) (hn : xs.length ≤ 1073741824) :
    Calls Try.prog 57 #[.agg #[.pointer (some ⟨g, 0, none⟩)], .pointer (some ⟨gp, 0, none⟩)] w fun e w' => AckP w0 w w' g gp q xs pos t r a e := by
  have hb0 : Below w.heap.size w (w.alloc (.cells #[.pointer (some ⟨g, 0, none⟩)] 101)) := (Below.refl _ _).alloc (Nat.le_refl _) _
  have HF := Lib.hid (h.later hb0)
  have HK := Lib.hid (Kept.of_new hb0 (fun i => i = g ∨ i = gp))
  have HSz := Lib.hid hb0.size
  clear h hb0
  go_enter Try.func57, Try.ntmps57
  go_wp2_with fail
  generalize w.alloc (.cells #[.pointer (some ⟨g, 0, none⟩)] 101) = w1 at *
  refine (heads_any w0 w1 g q xs pos HF.out.r hp hn).mono ?_
  rintro e w2 (⟨hm, A, c, rfl, ho, hr, hk⟩ | ⟨hm, rfl, hb, hk⟩)
  · have HF2 := Lib.hid (HF.out.step hk hr)
    have HK2 := Lib.hid (HK.out.trans (hk.mono (T := fun i => i = g ∨ i = gp) fun i _ e => .inl e) (fun _ _ e => e))
    have HO := Lib.hid (own_mono ho HSz.out)
    have HM := Lib.hid hm
    clear ho hr hk HF HK hm
    obtain ⟨n, hn2⟩ : ∃ n, (xs.length - pos) / 20 = n := ⟨_, rfl⟩
    rw [hn2] at HO ⊢
    have HN := Lib.hid hn2
    have f18 := HF2.out.k.frozen 18
    have y18 := HF2.out.k.cell 18
    clear hn2
    have HF3 := Lib.hid (HF2.out.put 18 (.slice A n c))
    have HK3 := Lib.hid (HK2.out.setCell (p := ⟨gp, 18, none⟩) (fun _ => .inr rfl) (.slice A n c))
    have HO3 := Lib.hid (own_kept HO.out (kept_setC w2 gp 18 (.slice A n c)) (fun i hi e => own_blk_ne HO.out HF2.out.k (by decide) (by rw [hi]; exact congrArg some e)))
    clear HF2 HK2 HO
    go_wp2_with fail
    go_end0
    exact .inl ⟨HM.out, { p0 t r a with HA := A, hn := n, hc := c, hs := hdsAt xs pos n }, rfl, ⟨HF3.out, HK3.out, World.ownsRow_nil _ _ _ _, own_nil _ _ _ _, own_nil _ _ _ _, HO3.out⟩, by rw [HN.out]⟩
  · have HB := Lib.hid (HF.out.fl3 HK.out rfl hb hk)
    have HM := Lib.hid hm
    clear hb hm hk
    go_wp2_with fail
    exact ⟨rfl, .inr ⟨HM.out, rfl, HB.out⟩⟩
end Go.Proofs.Ytbkejlalbjomkaa
