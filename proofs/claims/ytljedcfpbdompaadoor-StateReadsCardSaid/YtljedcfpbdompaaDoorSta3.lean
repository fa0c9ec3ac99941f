/-
  Heads read; ReadHead, Read; EqState.
-/
import Derived.Test.YtljedcfpbdompaaDoorSta2
namespace Go.Proofs.YtljedcfpbdompaaDoor
set_option linter.unusedVariables false
open Go.RowKit Go.ChangeShapes Go.WideShapes

theorem num_at {xs : List Int} {p k : Nat} (h : p + k ≤ xs.length) (h1 : 1 ≤ k) (h4 : k ≤ 4) : (⟨xs, p, 0⟩ : Rd).num k = (be ((xs.drop p).take k), ⟨xs, p + k, 0⟩) := by
  have e1 : (if (k : Int) < 1 ∨ 4 < (k : Int) then (-1 : Int) else k) = k := by rw [if_neg (by omega)]
  unfold Rd.num
  rw [e1]
  unfold Rd.next
  rw [if_pos rfl, if_neg (by omega), if_neg (by simp only; omega)]
  rfl
theorem be_at {xs : List Int} (ho : Oct xs) (p k : Nat) : 0 ≤ be ((xs.drop p).take k) ∧ be ((xs.drop p).take k) < 256 ^ k := be_take (ho.drop p) k
theorem rr_at (w0 w : World) (g : Nat) (q : Rq) (xs : List Int) (p k : Nat) (h : RR w0 w g q ⟨xs, p, 0⟩) (hp : p + k ≤ xs.length) (h1 : 1 ≤ k) (h4 : k ≤ 4) :
    Calls Tryd.prog 53 #[.pointer (some ⟨g, 0, none⟩), .int .i64 (k : Int)] w fun e w' => e = .returned (.int .u32 (be ((xs.drop p).take k))) ∧ RR w0 w' g q ⟨xs, p + k, 0⟩ ∧ Kept (fun i => i = g) w w' := by
  have := rr_num w0 w g q _ h k (by omega)
  rw [num_at hp h1 h4] at this
  exact this
/-- The head that stands at a place. -/
def hdAt (xs : List Int) (p : Nat) : Hd :=
  ⟨be ((xs.drop p).take 2), be ((xs.drop (p + 2)).take 1), be ((xs.drop (p + 3)).take 1), be ((xs.drop (p + 4)).take 4), be ((xs.drop (p + 8)).take 4), wrap32 (be ((xs.drop (p + 12)).take 4)), be ((xs.drop (p + 16)).take 2), be ((xs.drop (p + 18)).take 2)⟩
theorem wrap_i32_eq (x : Int) : wrap32 x = (x + 2147483648) % 4294967296 - 2147483648 := by unfold wrap32; rfl
theorem hdAt_ok {xs : List Int} (ho : Oct xs) (p : Nat) : (hdAt xs p).ok := by
  have a := be_at ho p 2
  have b := be_at ho (p + 2) 1
  have c := be_at ho (p + 3) 1
  have d := be_at ho (p + 4) 4
  have e := be_at ho (p + 8) 4
  have f := be_at ho (p + 16) 2
  have g := be_at ho (p + 18) 2
  refine ⟨?_, ?_, ?_, ?_, ?_, ?_, ?_, ?_⟩ <;> unfold hdAt <;> (try simp only) <;> first | omega | (rw [wrap_i32_eq]; omega)
set_option maxRecDepth 100000 in
set_option maxHeartbeats 4000000 in
theorem rdHead_any (w0 w : World) (g : Nat) (q : Rq) (xs : List Int) (p : Nat) (h : RR w0 w g q ⟨xs, p, 0⟩) (hl : p + 20 ≤ xs.length) :
    Calls Tryd.prog 18 #[.pointer (some ⟨g, 0, none⟩)] w fun e w' => e = .returned (hdAt xs p).v ∧ RR w0 w' g q ⟨xs, p + 20, 0⟩ ∧ Kept (fun i => i = g) w w' := by
  have ho : Oct xs := h.oct
  have hgl : g < w.heap.size := h.rs.blk.lt
  have HA := Lib.hid (And.intro h.rs.addr (And.intro h.b.size (h.rs.len)))
  obtain ⟨e1, e2, e3, e4, e5⟩ : IntKind.u16.wrap (be ((xs.drop p).take 2)) = be ((xs.drop p).take 2) ∧ IntKind.u8.wrap (be ((xs.drop (p + 2)).take 1)) = be ((xs.drop (p + 2)).take 1) ∧ IntKind.u8.wrap (be ((xs.drop (p + 3)).take 1)) = be ((xs.drop (p + 3)).take 1) ∧ IntKind.u16.wrap (be ((xs.drop (p + 16)).take 2)) = be ((xs.drop (p + 16)).take 2) ∧ IntKind.u16.wrap (be ((xs.drop (p + 18)).take 2)) = be ((xs.drop (p + 18)).take 2) := by
    have a := be_at ho p 2
    have b := be_at ho (p + 2) 1
    have c := be_at ho (p + 3) 1
    have f := be_at ho (p + 16) 2
    have g := be_at ho (p + 18) 2
    simp only [IntKind.wrap, IntKind.bits, IntKind.signed]
    refine ⟨?_, ?_, ?_, ?_, ?_⟩ <;> simp <;> omega
  have hb0 : Below w.heap.size w (w.alloc (.cells #[.int .u16 0, .int .u8 0, .int .u8 0, .int .u32 0, .int .u32 0, .int .i32 0, .int .u16 0, .int .u16 0] 28)) := (Below.refl _ _).alloc (Nat.le_refl _) _
  have HR := Lib.hid (h.later hb0)
  have HK := Lib.hid (Kept.of_new hb0 (fun i => i = g))
  have HZ := Lib.hid (Blk.new w 28 #[.int .u16 0, .int .u8 0, .int .u8 0, .int .u32 0, .int .u32 0, .int .i32 0, .int .u16 0, .int .u16 0])
  have HG := Lib.hid hgl
  clear h ho hgl hb0
  go_enter Tryd.func18, Tryd.ntmps18
  go_wp2_with fail
  generalize hgr : w.heap.size = gr at *
  generalize w.alloc (.cells #[.int .u16 0, .int .u8 0, .int .u8 0, .int .u32 0, .int .u32 0, .int .i32 0, .int .u16 0, .int .u16 0] 28) = v0 at *
  have hgrg : Hid (gr ≠ g) := Lib.hid (by have := HG.out; omega)
  have HGR := Lib.hid hgr
  clear hgr
  refine (rr_at w0 v0 g q xs (p) 2 HR.out (by omega) (by omega) (by omega)).mono ?_
  rintro e v1 ⟨rfl, hr, hk⟩
  replace HR := Lib.hid hr
  replace HK := Lib.hid (HK.out.trans hk (fun _ _ e => e))
  replace HZ := Lib.hid (HZ.out.kept hk hgrg.out)
  clear hr hk
  go_wp2_with fail
  refine (rr_at w0 v1 g q xs (p + 2) 1 HR.out (by omega) (by omega) (by omega)).mono ?_
  rintro e v2 ⟨rfl, hr, hk⟩
  replace HR := Lib.hid hr
  replace HK := Lib.hid (HK.out.trans hk (fun _ _ e => e))
  replace HZ := Lib.hid (HZ.out.kept hk hgrg.out)
  clear hr hk
  go_wp2_with fail
  refine (rr_at w0 v2 g q xs (p + 3) 1 HR.out (by omega) (by omega) (by omega)).mono ?_
  rintro e v3 ⟨rfl, hr, hk⟩
  replace HR := Lib.hid hr
  replace HK := Lib.hid (HK.out.trans hk (fun _ _ e => e))
  replace HZ := Lib.hid (HZ.out.kept hk hgrg.out)
  clear hr hk
  go_wp2_with fail
  refine (rr_at w0 v3 g q xs (p + 4) 4 HR.out (by omega) (by omega) (by omega)).mono ?_
  rintro e v4 ⟨rfl, hr, hk⟩
  replace HR := Lib.hid hr
  replace HK := Lib.hid (HK.out.trans hk (fun _ _ e => e))
  replace HZ := Lib.hid (HZ.out.kept hk hgrg.out)
  clear hr hk
  go_wp2_with fail
  refine (rr_at w0 v4 g q xs (p + 8) 4 HR.out (by omega) (by omega) (by omega)).mono ?_
  rintro e v5 ⟨rfl, hr, hk⟩
  replace HR := Lib.hid hr
  replace HK := Lib.hid (HK.out.trans hk (fun _ _ e => e))
  replace HZ := Lib.hid (HZ.out.kept hk hgrg.out)
  clear hr hk
  go_wp2_with fail
  refine (rr_at w0 v5 g q xs (p + 12) 4 HR.out (by omega) (by omega) (by omega)).mono ?_
  rintro e v6 ⟨rfl, hr, hk⟩
  replace HR := Lib.hid hr
  replace HK := Lib.hid (HK.out.trans hk (fun _ _ e => e))
  replace HZ := Lib.hid (HZ.out.kept hk hgrg.out)
  clear hr hk
  go_wp2_with fail
  refine (rr_at w0 v6 g q xs (p + 16) 2 HR.out (by omega) (by omega) (by omega)).mono ?_
  rintro e v7 ⟨rfl, hr, hk⟩
  replace HR := Lib.hid hr
  replace HK := Lib.hid (HK.out.trans hk (fun _ _ e => e))
  replace HZ := Lib.hid (HZ.out.kept hk hgrg.out)
  clear hr hk
  go_wp2_with fail
  refine (rr_at w0 v7 g q xs (p + 18) 2 HR.out (by omega) (by omega) (by omega)).mono ?_
  rintro e v8 ⟨rfl, hr, hk⟩
  replace HR := Lib.hid hr
  replace HK := Lib.hid (HK.out.trans hk (fun _ _ e => e))
  replace HZ := Lib.hid (HZ.out.kept hk hgrg.out)
  clear hr hk
  go_wp2_with (refine wpList_store_row rfl 28 _ _ rfl gr #[.int .u16 (be ((xs.drop p).take 2)), .int .u8 (be ((xs.drop (p + 2)).take 1)), .int .u8 (be ((xs.drop (p + 3)).take 1)), .int .u32 (be ((xs.drop (p + 4)).take 4)), .int .u32 (be ((xs.drop (p + 8)).take 4)), .int .i32 (wrap32 (be ((xs.drop (p + 12)).take 4))), .int .u16 (be ((xs.drop (p + 16)).take 2)), .int .u16 (be ((xs.drop (p + 18)).take 2))] rfl rfl 28 _ HZ.out info_head rfl (by simp [Value.oneCell']) ?_)
  refine bodyPost_ret (results_cell_row rfl _ _ gr 28 #[.int .u16 (be ((xs.drop p).take 2)), .int .u8 (be ((xs.drop (p + 2)).take 1)), .int .u8 (be ((xs.drop (p + 3)).take 1)), .int .u32 (be ((xs.drop (p + 4)).take 4)), .int .u32 (be ((xs.drop (p + 8)).take 4)), .int .i32 (wrap32 (be ((xs.drop (p + 12)).take 4))), .int .u16 (be ((xs.drop (p + 16)).take 2)), .int .u16 (be ((xs.drop (p + 18)).take 2))] (0, 0) _ rfl (HZ.out.setRow _) Tryd.underlying28 rfl info_head) rfl ⟨rfl, ?_, ?_⟩
  · refine HR.out.kept (R := fun i => i = gr) ((Kept.of_grown (only_setRow v8 gr _)).mono fun i _ e => by simpa using e.symm) (fun e => hgrg.out e.symm) (fun h0 ad e e' => ?_) (fun i e => ?_)
    · have h1 := HA.out.1 h0 ad e
      have h2 : ad.block = gr := e'
      omega
    · have h1 := HA.out.2.1
      have h2 : i = gr := e
      omega
  · exact HK.out.trans ((Kept.of_grown (only_setRow v8 gr _)).mono (T := fun i => i = gr) fun i _ e => by simpa using e.symm) (fun i hi e => absurd hi (by
      have h1 := HGR.out
      have h2 : i = gr := e
      omega))
/-- What ReadHead answers. -/
def rhH (xs : List Int) : Hd := if xs.length < 20 then ⟨0, 0, 0, 0, 0, 0, 0, 0⟩ else hdAt xs 0
def rhE (xs : List Int) : Int := if xs.length < 20 then 10 else 0
theorem hdAt_take {xs : List Int} (h : 20 ≤ xs.length) : hdAt (xs.take 20) 0 = hdAt xs 0 := by
  have key : ∀ p k, p + k ≤ 20 → ((xs.take 20).drop p).take k = (xs.drop p).take k := by
    intro p k hpk
    rw [List.drop_take, List.take_take]
    congr 1
    omega
  unfold hdAt
  rw [key 0 2 (by omega), key (0 + 2) 1 (by omega), key (0 + 3) 1 (by omega), key (0 + 4) 4 (by omega), key (0 + 8) 4 (by omega), key (0 + 12) 4 (by omega), key (0 + 16) 2 (by omega), key (0 + 18) 2 (by omega)]
set_option maxRecDepth 100000 in
set_option maxHeartbeats 4000000 in
theorem readHead_any (A : Option Addr) (n c : Nat) (xs : List Int) (w : World) (hx : Reads w w.heap.size 1 A n (u8s xs)) (ho : Oct xs) (hc : n ≤ c) (hcm : c ≤ 9223372036854775807) (hn : n ≤ 140737488355328) :
    Calls Tryd.prog 6 #[.slice A n c] w fun e w' => e = .returned (.tuple #[(rhH xs).v, .int .i64 (rhE xs)]) ∧ Below w.heap.size w w' := by
  have hl := hx.u8len
  have hb0 : Below w.heap.size w (w.alloc (.cells #[.int .u16 0, .int .u8 0, .int .u8 0, .int .u32 0, .int .u32 0, .int .i32 0, .int .u16 0, .int .u16 0] 28)) := (Below.refl _ _).alloc (Nat.le_refl _) _
  have HZ := Lib.hid (Blk.new w 28 #[.int .u16 0, .int .u8 0, .int .u8 0, .int .u32 0, .int .u32 0, .int .i32 0, .int .u16 0, .int .u16 0])
  have HB := Lib.hid hb0
  by_cases h20 : n < 20
  · have e1 : rhH xs = ⟨0, 0, 0, 0, 0, 0, 0, 0⟩ := by unfold rhH; rw [if_pos (by omega)]
    have e2 : rhE xs = 10 := by unfold rhE; rw [if_pos (by omega)]
    rw [e1, e2]
    have hd : decide ((n : Int) < 20) = true := decide_eq_true (by omega)
    clear hx ho hl hb0 e1 e2
    go_enter Tryd.func6, Tryd.ntmps6
    go_wp2_with (refine wpList_store_row rfl 28 _ _ rfl w.heap.size #[.int .u16 0, .int .u8 0, .int .u8 0, .int .u32 0, .int .u32 0, .int .i32 0, .int .u16 0, .int .u16 0] rfl rfl 28 _ (heap_alloc_new w _) info_head rfl (by simp [Value.oneCell']) ?_; rw [World.setRow_alloc_new])
    exact bodyPost_ret (results_cell_row_tmp rfl _ _ w.heap.size 28 #[.int .u16 0, .int .u8 0, .int .u8 0, .int .u32 0, .int .u32 0, .int .i32 0, .int .u16 0, .int .u16 0] (0, 0) _ rfl HZ.out Tryd.underlying28 rfl info_head) rfl ⟨rfl, HB.out⟩
  · have e1 : rhH xs = hdAt (xs.take 20) 0 := by unfold rhH; rw [if_neg (by omega), hdAt_take (by omega)]
    have e2 : rhE xs = 0 := by unfold rhE; rw [if_neg (by omega)]
    obtain ⟨H, hH⟩ : ∃ H, hdAt (xs.take 20) 0 = H := ⟨_, rfl⟩
    rw [e1, e2, hH]
    have HH := Lib.hid hH
    have hd : decide ((n : Int) < 20) = false := decide_eq_false (by omega)
    have HR := Lib.hid ((hx.later hb0).u8pre (k := 20) (by omega))
    have HO := Lib.hid (ho.take 20)
    have HL : Hid ((xs.take 20).length = 20) := Lib.hid (by rw [List.length_take]; omega)
    have h20c : (20 : Int) ≤ c := by omega
    clear hx ho hl hb0 e1 e2 hH
    go_enter Tryd.func6, Tryd.ntmps6
    go_wp2_with fail
    generalize hgr : w.heap.size = gr at *
    have HGR := Lib.hid hgr
    clear hgr
    generalize w.alloc (.cells #[.int .u16 0, .int .u8 0, .int .u8 0, .int .u32 0, .int .u32 0, .int .i32 0, .int .u16 0, .int .u16 0] 28) = w1 at *
    refine (rr_new A 20 c (xs.take 20) w1 HR.out HO.out (by omega)).mono ?_
    rintro e w2 ⟨g, q, rfl, hr⟩
    have HR2 := Lib.hid hr
    clear hr
    go_wp2_with fail
    have HD := rdHead_any w1 w2 g q (xs.take 20) 0 HR2.out (by rw [HL.out]; omega)
    rw [HH.out] at HD
    refine HD.mono ?_
    clear HD
    rintro e w3 ⟨rfl, hr, _⟩
    have HZ3 := Lib.hid (HZ.out.later hr.b)
    have HB3 : Hid (Below w.heap.size w w3) := Lib.hid (below_then (by rw [HGR.out]; exact HB.out) hr.b)
    clear hr HR2
    go_wp2_with (refine wpList_store_row rfl 28 _ _ rfl gr #[.int .u16 H.age, .int .u8 H.opts, .int .u8 H.typ, .int .u32 H.id, .int .u32 H.adv, .int .i32 H.seq, .int .u16 H.sum, .int .u16 H.len] rfl rfl 28 _ HZ3.out info_head rfl (by simp [Value.oneCell']) ?_)
    exact bodyPost_ret (results_cell_row_tmp rfl _ _ gr 28 #[.int .u16 H.age, .int .u8 H.opts, .int .u8 H.typ, .int .u32 H.id, .int .u32 H.adv, .int .i32 H.seq, .int .u16 H.sum, .int .u16 H.len] (0, 0) _ rfl (HZ3.out.setRow _) Tryd.underlying28 rfl info_head) rfl ⟨rfl, below_setRow HB3.out (by have := HGR.out; omega) _⟩
end Go.Proofs.YtljedcfpbdompaaDoor
