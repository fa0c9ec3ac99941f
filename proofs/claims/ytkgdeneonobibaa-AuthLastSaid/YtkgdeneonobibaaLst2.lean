/-
  auth.Last: Forget and Take, walked.
-/
import Derived.Test.YtkgdeneonobibaaLst1
namespace Go.Proofs.Ytkgdeneonobibaa
set_option linter.unusedVariables false
open Go.RowKit

def LastF (w : World) (g bm : Nat) (f : Int → Option Int) : Prop := ∃ P, LastM w g bm P ∧ Says P f
theorem LastF.later {w w' : World} {g bm : Nat} {f : Int → Option Int} (h : LastF w g bm f) (hb : Below w.heap.size w w') : LastF w' g bm f := by
  obtain ⟨P, h1, h2⟩ := h
  exact ⟨P, h1.later hb, h2⟩
theorem find_at {P : List (Int × Int)} {r : Int} {j : Nat} {v : Value} (hf : findL (ents P) r 0 = some (j, v)) : ∃ t0, P[j]? = some (r, t0) := by
  obtain ⟨k, hk, hL⟩ := findL_some 0 hf
  rw [Nat.zero_add] at hk
  subst hk
  unfold ents at hL
  rw [List.getElem?_map] at hL
  cases hp : P[j]? with
  | none => rw [hp] at hL; cases hL
  | some p =>
    rw [hp] at hL
    simp at hL
    exact ⟨p.2, by rw [← hL.1]⟩
theorem find_none {P : List (Int × Int)} {r : Int} (hf : findL (ents P) r 0 = none) : ∀ p ∈ P, p.1 ≠ r := by
  intro p hp
  have := (findL_none 0).1 hf (p.1, .int .u32 p.2) (List.mem_map.2 ⟨p, hp, rfl⟩)
  exact this
theorem forgetF_any (w : World) (g bm : Nat) (f : Int → Option Int) (r : Int) (h : LastF w g bm f) : Calls Try.prog 22 #[.pointer (some ⟨g, 0, none⟩), .int .u32 r] w fun e w' =>
    e = .returned (.tuple #[]) ∧ LastF w' g bm (upd f r none) ∧ Kept (fun i => i = bm) w w' := by
  obtain ⟨P, hM, hS⟩ := h
  have h0 : w.cell? ⟨g, 0, none⟩ = some (.map (some bm)) := hM.blk.cell 0
  have HM := Lib.hid hM
  have HS := Lib.hid hS
  clear hM hS
  go_enter Try.func22, Try.ntmps22
  go_wp2_with (refine wpList_deleteL u32T Try.underlying41 rfl (.tmp 9) (.tmp 10) 34 rfl HM.out.map rfl r rfl ?_; intro w2 hM2 hk2)
  go_end0
  refine ⟨rfl, ?_, hk2⟩
  have hb2 : Blk w2 g 43 #[.map (some bm)] := HM.out.blk.kept hk2 (fun e => HM.out.map.ne_blk HM.out.blk e.symm)
  cases hf : findL (ents P) r 0 with
  | none =>
    rw [hf] at hM2
    have hr : f r = none := by
      rw [← says_get HS.out r]
      have := find_ents P r 0
      rw [hf] at this
      cases hp : pget P r with
      | none => rfl
      | some t => rw [hp] at this; simp at this
    exact ⟨P, ⟨hb2, hM2, HM.out.nd⟩, says_none HS.out hr⟩
  | some p =>
    obtain ⟨j, v⟩ := p
    rw [hf] at hM2
    obtain ⟨t0, hj⟩ := find_at hf
    refine ⟨P.eraseIdx j, ⟨hb2, ?_, ?_⟩, says_erase HS.out HM.out.nd hj⟩
    · have e : ents (P.eraseIdx j) = (ents P).eraseIdx j := by unfold ents; rw [map_eraseIdx]
      rw [e]; exact hM2
    · exact HM.out.nd.sublist ((List.eraseIdx_sublist P j).map _)
def takeE (o : Option Int) (s : Int) : Int := match o with | some l => if s < l then 27 else 0 | none => 0
def takeF (f : Int → Option Int) (r s : Int) : Int → Option Int := if takeE (f r) s = 27 then f else upd f r (some s)
theorem takeM_any (w : World) (g bm : Nat) (f : Int → Option Int) (r s : Int) (h : LastF w g bm f) : Calls Try.prog 24 #[.pointer (some ⟨g, 0, none⟩), .int .u32 r, .int .u32 s] w fun e w' =>
    e = .returned (.int .i64 (takeE (f r) s)) ∧ LastF w' g bm (takeF f r s) ∧ Kept (fun i => i = bm) w w' := by
  obtain ⟨P, hM, hS⟩ := h
  have h0 : w.cell? ⟨g, 0, none⟩ = some (.map (some bm)) := hM.blk.cell 0
  have hE := fun W : World => run_eql_map_nil (P := Try.prog) W 41 34 34 (some bm) Try.underlying41
  simp only [Option.isNone_some] at hE
  have hl : (Instr.lookup 41 (.map (some bm)) (.int .u32 r) true).run Try.prog w = .ok (getV (pget P r)) w := by
    rw [← looked_ents]
    exact run_lookupL u32T Try.underlying41 (zero32 w) hM.map r true
  rw [says_get hS r] at hl
  have HM := Lib.hid hM
  have HS := Lib.hid hS
  have hfe := find_ents P r 0
  rw [says_get hS r] at hfe
  have HFE := Lib.hid hfe
  clear hM hS hfe
  cases hfr : f r with
  | none =>
    rw [hfr] at hl HFE
    simp only [getV] at hl
    have hnone : Hid (findL (ents P) r 0 = none) := by
      show _ = _
      cases hf : findL (ents P) r 0 with
      | none => rfl
      | some p => have := HFE.out; rw [hf] at this; simp at this
    have hT : Hid (takeF f r s = upd f r (some s)) := by show _ = _; unfold takeF takeE; rw [hfr]; simp
    clear HFE
    go_enter Try.func24, Try.ntmps24
    go_wp2_with (refine wpList_storeL_new u32T Try.underlying41 rfl (.tmp 36) (.tmp 37) (.tmp 38) rfl HM.out.map rfl r rfl (.int .u32 s) rfl hnone.out ?_; intro w2 hM2 hk2; have HM2 := Lib.hid hM2; have HK2 := Lib.hid hk2; clear hM2 hk2)
    go_ret
    refine ⟨rfl, ?_, HK2.out⟩
    have hb2 : Blk w2 g 43 #[.map (some bm)] := HM.out.blk.kept HK2.out (fun e => HM.out.map.ne_blk HM.out.blk e.symm)
    rw [hT.out]
    refine ⟨P ++ [(r, s)], ⟨hb2, ?_, ?_⟩, says_new HS.out (find_none hnone.out)⟩
    · have e : ents (P ++ [(r, s)]) = ents P ++ [(r, .int .u32 s)] := by unfold ents; simp
      rw [e]; exact HM2.out
    · rw [List.map_append, List.nodup_append]
      refine ⟨HM.out.nd, by simp, fun a ha b hb e => ?_⟩
      obtain ⟨p, hp, rfl⟩ := List.mem_map.1 ha
      simp at hb
      exact find_none hnone.out p hp (e.trans hb)
  | some l =>
    rw [hfr] at hl HFE
    simp only [getV] at hl
    by_cases hs : s < l
    · have hT : Hid (takeF f r s = f) := by show _ = _; unfold takeF takeE; rw [hfr]; simp [hs]
      have hV : Hid (takeE (some l) s = 27) := by show _ = _; unfold takeE; simp [hs]
      have HP : Hid (LastF w g bm f) := ⟨P, HM.out, HS.out⟩
      clear HFE
      go_enter Try.func24, Try.ntmps24
      go_wp2
      go_ret
      exact ⟨by rw [hV.out]; rfl, by rw [hT.out]; exact HP.out, Kept.refl _ _⟩
    · have hT : Hid (takeF f r s = upd f r (some s)) := by show _ = _; unfold takeF takeE; rw [hfr]; simp [hs]
      have hV : Hid (takeE (some l) s = 0) := by show _ = _; unfold takeE; simp [hs]
      obtain ⟨j, v, hjv⟩ : ∃ j v, findL (ents P) r 0 = some (j, v) := by
        cases hf : findL (ents P) r 0 with
        | none => have := HFE.out; rw [hf] at this; simp at this
        | some p => exact ⟨p.1, p.2, rfl⟩
      have HJ := Lib.hid hjv
      clear HFE hjv
      go_enter Try.func24, Try.ntmps24
      go_wp2_with (refine wpList_storeL_old u32T Try.underlying41 rfl (.tmp 36) (.tmp 37) (.tmp 38) rfl HM.out.map rfl r rfl (.int .u32 s) rfl HJ.out ?_; intro w2 hM2 hk2; have HM2 := Lib.hid hM2; have HK2 := Lib.hid hk2; clear hM2 hk2)
      go_ret
      refine ⟨by rw [hV.out]; rfl, ?_, HK2.out⟩
      have hb2 : Blk w2 g 43 #[.map (some bm)] := HM.out.blk.kept HK2.out (fun e => HM.out.map.ne_blk HM.out.blk e.symm)
      rw [hT.out]
      obtain ⟨t0, hj⟩ := find_at HJ.out
      refine ⟨P.set j (r, s), ⟨hb2, ?_, ?_⟩, says_set HS.out HM.out.nd hj⟩
      · have e : ents (P.set j (r, s)) = (ents P).set j (r, .int .u32 s) := by unfold ents; rw [List.map_set]
        rw [e]; exact HM2.out
      · have e : (P.set j (r, s)).map (·.1) = P.map (·.1) := by
          rw [List.map_set]
          refine List.ext_getElem? fun i => ?_
          rw [List.getElem?_set]
          by_cases hij : j = i
          · subst hij
            rw [if_pos rfl, List.getElem?_map, hj]
            rw [if_pos (by rw [List.length_map]; exact (List.getElem?_eq_some_iff.1 hj).1)]
            rfl
          · rw [if_neg hij]
        rw [e]; exact HM.out.nd
end Go.Proofs.Ytkgdeneonobibaa
