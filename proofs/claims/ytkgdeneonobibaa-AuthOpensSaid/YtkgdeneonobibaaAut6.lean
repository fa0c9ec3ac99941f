/-
  Chains of keys: Check of the program, walked.
-/
import Derived.Test.YtkgdeneonobibaaAut5
namespace Go.Proofs.Ytkgdeneonobibaa
set_option linter.unusedVariables false
open Go.RowKit

theorem exec_load_row {P : Program} {o : Oper} {a : Act} {w : World} {ty : TypeId} {x : Operand} (ho : o.op = .load ty x)
    {g : Nat} (hx : a.eval x = .pointer (some ⟨g, 0, none⟩)) {t : TypeId} {cs : Array Value} {d : TypeDesc} (hg : Blk w g t cs)
    (hu : P.underlying ty = some d) (hd : (match d with | .struct _ | .array _ _ => true | _ => false) = true) (hi : (P.info? ty).map (·.size) = some cs.size) :
    (execOp a.eval o).run P w = .ok (.value (.agg cs)) w := by
  unfold execOp
  simp only [ho, hx, Instr.loadAt, Instr.sureAddr, Sem.run_bind, Sem.run_pure, Result.andThen_ok, run_loadVar_row w g t ty cs (0, 0) d hg hu hd hi]
theorem info_key : (Try.prog.info? 70).map (·.size) = some 7 := by kernel_rfl
/-- The first key's kind. -/
def kind0 (L : List AK) : Int := match L with | [] => 0 | k :: _ => k.kind
def badB (L : List AK) (k : AK) : Bool := !mayB k || !(k.kind == kind0 L)
def checkFrom (L : List AK) : Nat → Nat → Int × Int
  | 0, _ => (0, 0)
  | f + 1, i => match L[i]? with
    | none => (0, 0)
    | some k => if badB L k then (26, (i : Int)) else if (L.take i).any (fun o => o.id == k.id) then (63, (i : Int)) else checkFrom L f (i + 1)
def checkOf (L : List AK) : Int × Int := if 16 < L.length then (64, 16) else checkFrom L L.length 0
theorem check_bad {L : List AK} {n i : Nat} {k : AK} (hi : i < n) (hk : L[i]? = some k) (hb : badB L k = true) : checkFrom L (n - i) i = (26, (i : Int)) := by
  rw [show n - i = n - i - 1 + 1 by omega]; unfold checkFrom; simp only [hk, hb, if_true]
theorem check_twice {L : List AK} {n i : Nat} {k : AK} (hi : i < n) (hk : L[i]? = some k) (hb : badB L k = false) (ht : (L.take i).any (fun o => o.id == k.id) = true) : checkFrom L (n - i) i = (63, (i : Int)) := by
  rw [show n - i = n - i - 1 + 1 by omega]; unfold checkFrom; simp only [hk, hb, ht, Bool.false_eq_true, if_false, if_true]
theorem check_on {L : List AK} {n i : Nat} {k : AK} (hi : i < n) (hk : L[i]? = some k) (hb : badB L k = false) (ht : (L.take i).any (fun o => o.id == k.id) = false) : checkFrom L (n - i) i = checkFrom L (n - (i + 1)) (i + 1) := by
  rw [show n - i = n - (i + 1) + 1 by omega]; conv => lhs; unfold checkFrom
  simp only [hk, hb, ht, Bool.false_eq_true, if_false]
theorem kind0_of {L : List AK} {k : AK} (h : L[0]? = some k) : kind0 L = k.kind := by
  cases L with
  | nil => simp at h
  | cons a r => simp at h; subst h; rfl
theorem Keys.first {w : World} {ad : Addr} {n : Nat} {L : List AK} (h : Keys w (some ad) n L) (hn : 0 < n) : w.cell? ⟨ad.block, ad.off + 1, none⟩ = some (.int .u16 (kind0 L)) := by
  obtain ⟨ad', k, e, _, hk, _, _, c1, _⟩ := h.at_ hn
  injection e with e; subst e
  rw [kind0_of hk.out]
  simpa [Addr.add] using c1
def ckRel (w : World) (L : List AK) (n : Nat) (i : Value) (wr : World) : Prop := ∃ j : Nat, i = .int .i64 j ∧ j ≤ n ∧ Hid (checkFrom L (n - j) j = checkFrom L n 0) ∧ Below w.heap.size w wr
def CkAt (w w' : World) (p : Int × Int) (e : Ending) : Prop := e = .returned (.tuple #[.int .i64 p.1, .int .i64 p.2]) ∧ Below w.heap.size w w'
theorem ckAt {w w' : World} {p q : Int × Int} {e : Ending} (h : CkAt w w' p e) (hq : q = p) : CkAt w w' q e := hq ▸ h
set_option maxHeartbeats 4000000 in
theorem check_any (A : Option Addr) (n c : Nat) (L : List AK) (w : World) (hL : Keys w A n L) (hc : n ≤ c) (hn : n ≤ 9223372036854775807) :
    Calls Try.prog 12 #[.slice A n c] w fun e w' => CkAt w w' (checkOf L) e := by
  have HL := Lib.hid hL
  clear hL
  by_cases h16 : 16 < n
  · have hr : Hid (checkOf L = (64, 16)) := by show _ = _; unfold checkOf; rw [if_pos (by rw [HL.out.len]; exact h16)]
    have d0 : decide (16 < (n : Int)) = true := decide_eq_true (by omega)
    go_enter Try.func12, Try.ntmps12
    go_wp2
    go_ret2
    exact ckAt ⟨rfl, Below.refl _ _⟩ hr.out
  have hr : Hid (checkOf L = checkFrom L n 0) := by show _ = _; unfold checkOf; rw [if_neg (by rw [HL.out.len]; exact h16), HL.out.len]
  have d0 : decide (16 < (n : Int)) = false := decide_eq_false (by omega)
  have hn2 : n ≤ 16 := by omega
  go_enter Try.func12, Try.ntmps12
  go_wp2
  go_loopw [11] (ckRel w L n) (fun i _ => n - (intOf i).toNat)
  case atStart => exact ⟨0, rfl, by omega, rfl, Below.refl _ _⟩
  case round =>
    obtain ⟨i, rfl, hi, hck, hb⟩ := hrel
    have HB := Lib.hid hb
    clear hb
    by_cases hlt : i < n
    · obtain ⟨ad, k, rfl, hbl, hk, hok, c0, c1, c2, c3, c4, c5, c6⟩ := (HL.out.later HB.out).at_ hlt
      have HM : Hid (∀ W : World, Calls Try.prog 37 #[k.v] W fun e w' => e = .returned (.bool (mayB k)) ∧ Below W.heap.size W w') := fun W => may_any k W hok.out.kind.1
      have hbad : Hid (badB L k = (!mayB k || !(k.kind == kind0 L))) := rfl
      have h0n : 0 < n := by omega
      obtain ⟨id, kind, S, sn, sc, sf, su, tf, tu, bs⟩ := k
      simp only at c0 c1 c2 c3 c4 c5 c6
      clear hok
      go_wp2
      have HS : Hid ((fun W : World => Blk W wr.heap.size 70 #[.int .u8 id, .int .u16 kind, .slice S sn sc, .int .i64 sf, .int .i64 su, .int .i64 tf, .int .i64 tu] ∧ W.cell? ⟨ad.block, ad.off + 1, none⟩ = some (.int .u16 (kind0 L))) (wr.alloc (.cells #[.int .u8 id, .int .u16 kind, .slice S sn sc, .int .i64 sf, .int .i64 su, .int .i64 tf, .int .i64 tu] 70)).drew) := ⟨Blk.new _ _ _, by
        show (wr.alloc _).cell? _ = _
        rw [World.cell?_alloc_lt wr _ ⟨ad.block, ad.off + 1, none⟩ hbl]
        exact (HL.out.later HB.out).first h0n⟩
      have HB1 : Hid (Below w.heap.size w (wr.alloc (.cells #[.int .u8 id, .int .u16 kind, .slice S sn sc, .int .i64 sf, .int .i64 su, .int .i64 tf, .int .i64 tu] 70)).drew) := (HB.out.alloc HB.out.size _).drew
      clear c0 c1 c2 c3 c4 c5 c6
      generalize hK0 : kind0 L = K0 at *
      refine wp_region_s (fun W : World => Blk W wr.heap.size 70 #[.int .u8 id, .int .u16 kind, .slice S sn sc, .int .i64 sf, .int .i64 su, .int .i64 tf, .int .i64 tu] ∧ W.cell? ⟨ad.block, ad.off + 1, none⟩ = some (.int .u16 K0)) [(0, true), (1, false), (2, true), (3, true), (4, true), (6, true), (7, true), (8, true), (5, true), (9, true), (10, true), (11, true)] (by kernel_rfl) (fun _ d _ _ _ h => by cases d <;> exact h) ?_
      simp only [List.map_cons, List.map_nil, nthOp_zero, nthOp_succ]
      generalize (wr.alloc (.cells #[.int .u8 id, .int .u16 kind, .slice S sn sc, .int .i64 sf, .int .i64 su, .int .i64 tf, .int .i64 tu] 70)).drew = w1 at *
      generalize wr.heap.size = g0 at *
      refine wpS_take HS (by rfl) (fun W hW => exec_load_row rfl rfl hW.1 Try.underlying70 rfl info_key) ?_
      refine wpS_do fun K1 hK1 => ?_
      go_wp2_with fail
      refine (HM.out w1).mono ?_
      rintro e w2 ⟨rfl, hb⟩
      have HS2 : Hid ((fun W : World => Blk W g0 70 #[.int .u8 id, .int .u16 kind, .slice S sn sc, .int .i64 sf, .int .i64 su, .int .i64 tf, .int .i64 tu] ∧ W.cell? ⟨ad.block, ad.off + 1, none⟩ = some (.int .u16 K0)) w2) := ⟨HS.out.1.later hb, (hb.cell (p := ⟨ad.block, ad.off + 1, none⟩) (cell_lt HS.out.2)).trans HS.out.2⟩
      have HB2 := Lib.hid (below_then HB1.out hb)
      clear hb HS HB1 HM
      go_wp2
      refine hK1.out _ _ HS2.out ?_
      clear hK1 K1
      generalize hmay : mayB _ = M at *
      cases M
      · have hb1 : Hid (badB L ⟨id, kind, S, sn, sc, sf, su, tf, tu, bs⟩ = true) := by show _ = _; rw [hbad.out]; rfl
        refine wpS_take HS2 (by kernel_rfl) (by intro W hW; have q1 := hW.1.cell 1; have q2 := hW.2; clear hW; simp only [List.getElem?_toArray, List.getElem?_cons_zero, List.getElem?_cons_succ] at q1; go_simp; try with_reducible rfl) ?_
        refine wpS_take HS2 (by kernel_rfl) (by intro W hW; have q1 := hW.1.cell 1; have q2 := hW.2; clear hW; simp only [List.getElem?_toArray, List.getElem?_cons_zero, List.getElem?_cons_succ] at q1; go_simp; try with_reducible rfl) ?_
        refine wpS_skip HS2 (by kernel_rfl) ?_
        refine wpS_skip HS2 (by kernel_rfl) ?_
        refine wpS_skip HS2 (by kernel_rfl) ?_
        refine wpS_skip HS2 (by kernel_rfl) ?_
        refine wpS_skip HS2 (by kernel_rfl) ?_
        refine wpS_skip HS2 (by kernel_rfl) ?_
        refine wpS_skip HS2 (by kernel_rfl) ?_
        refine wpS_take HS2 (by kernel_rfl) (by intro W hW; have q1 := hW.1.cell 1; have q2 := hW.2; clear hW; simp only [List.getElem?_toArray, List.getElem?_cons_zero, List.getElem?_cons_succ] at q1; go_simp; try with_reducible rfl) ?_
        refine wpS_nil ?_
        have hfin : Hid (checkOf L = (26, (i : Int))) := by show _ = _; rw [hr.out, ← hck.out]; exact check_bad hlt hk.out hb1.out
        go_simp
        go_wp2
        go_ret2
        exact ckAt ⟨rfl, HB2.out⟩ hfin.out
      · cases hkk : (kind == K0)
        · have hb1 : Hid (badB L ⟨id, kind, S, sn, sc, sf, su, tf, tu, bs⟩ = true) := by show _ = _; rw [hbad.out]; simp only [hkk]; rfl
          refine wpS_take HS2 (by kernel_rfl) (by intro W hW; have q1 := hW.1.cell 1; have q2 := hW.2; clear hW; simp only [List.getElem?_toArray, List.getElem?_cons_zero, List.getElem?_cons_succ] at q1; go_simp; try with_reducible rfl) ?_
          refine wpS_take HS2 (by kernel_rfl) (by intro W hW; have q1 := hW.1.cell 1; have q2 := hW.2; clear hW; simp only [List.getElem?_toArray, List.getElem?_cons_zero, List.getElem?_cons_succ] at q1; go_simp; try with_reducible rfl) ?_
          refine wpS_take HS2 (by kernel_rfl) (by intro W hW; have q1 := hW.1.cell 1; have q2 := hW.2; clear hW; simp only [List.getElem?_toArray, List.getElem?_cons_zero, List.getElem?_cons_succ] at q1; go_simp; try with_reducible rfl) ?_
          refine wpS_take HS2 (by kernel_rfl) (by intro W hW; have q1 := hW.1.cell 1; have q2 := hW.2; clear hW; simp only [List.getElem?_toArray, List.getElem?_cons_zero, List.getElem?_cons_succ] at q1; go_simp; try with_reducible rfl) ?_
          refine wpS_take HS2 (by kernel_rfl) (by intro W hW; have q1 := hW.1.cell 1; have q2 := hW.2; clear hW; simp only [List.getElem?_toArray, List.getElem?_cons_zero, List.getElem?_cons_succ] at q1; go_simp; try with_reducible rfl) ?_
          refine wpS_take HS2 (by kernel_rfl) (by intro W hW; have q1 := hW.1.cell 1; have q2 := hW.2; clear hW; simp only [List.getElem?_toArray, List.getElem?_cons_zero, List.getElem?_cons_succ] at q1; go_simp; try with_reducible rfl) ?_
          refine wpS_take HS2 (by kernel_rfl) (by intro W hW; have q1 := hW.1.cell 1; have q2 := hW.2; clear hW; simp only [List.getElem?_toArray, List.getElem?_cons_zero, List.getElem?_cons_succ] at q1; go_simp; try with_reducible rfl) ?_
          refine wpS_take HS2 (by kernel_rfl) (by intro W hW; have q1 := hW.1.cell 1; have q2 := hW.2; clear hW; simp only [List.getElem?_toArray, List.getElem?_cons_zero, List.getElem?_cons_succ] at q1; go_simp; try with_reducible rfl) ?_
          refine wpS_take HS2 (by kernel_rfl) (by intro W hW; have q1 := hW.1.cell 1; have q2 := hW.2; clear hW; simp only [List.getElem?_toArray, List.getElem?_cons_zero, List.getElem?_cons_succ] at q1; go_simp; try with_reducible rfl) ?_
          refine wpS_take HS2 (by kernel_rfl) (by intro W hW; have q1 := hW.1.cell 1; have q2 := hW.2; clear hW; simp only [List.getElem?_toArray, List.getElem?_cons_zero, List.getElem?_cons_succ] at q1; go_simp; try with_reducible rfl) ?_
          refine wpS_nil ?_
          have hfin : Hid (checkOf L = (26, (i : Int))) := by show _ = _; rw [hr.out, ← hck.out]; exact check_bad hlt hk.out hb1.out
          go_simp
          go_wp2
          go_ret2
          exact ckAt ⟨rfl, HB2.out⟩ hfin.out
        · have hb1 : Hid (badB L ⟨id, kind, S, sn, sc, sf, su, tf, tu, bs⟩ = false) := by show _ = _; rw [hbad.out]; simp only [hkk]; rfl
          refine wpS_take HS2 (by kernel_rfl) (by intro W hW; have q1 := hW.1.cell 1; have q2 := hW.2; clear hW; simp only [List.getElem?_toArray, List.getElem?_cons_zero, List.getElem?_cons_succ] at q1; go_simp; try with_reducible rfl) ?_
          refine wpS_take HS2 (by kernel_rfl) (by intro W hW; have q1 := hW.1.cell 1; have q2 := hW.2; clear hW; simp only [List.getElem?_toArray, List.getElem?_cons_zero, List.getElem?_cons_succ] at q1; go_simp; try with_reducible rfl) ?_
          refine wpS_take HS2 (by kernel_rfl) (by intro W hW; have q1 := hW.1.cell 1; have q2 := hW.2; clear hW; simp only [List.getElem?_toArray, List.getElem?_cons_zero, List.getElem?_cons_succ] at q1; go_simp; try with_reducible rfl) ?_
          refine wpS_take HS2 (by kernel_rfl) (by intro W hW; have q1 := hW.1.cell 1; have q2 := hW.2; clear hW; simp only [List.getElem?_toArray, List.getElem?_cons_zero, List.getElem?_cons_succ] at q1; go_simp; try with_reducible rfl) ?_
          refine wpS_take HS2 (by kernel_rfl) (by intro W hW; have q1 := hW.1.cell 1; have q2 := hW.2; clear hW; simp only [List.getElem?_toArray, List.getElem?_cons_zero, List.getElem?_cons_succ] at q1; go_simp; try with_reducible rfl) ?_
          refine wpS_take HS2 (by kernel_rfl) (by intro W hW; have q1 := hW.1.cell 1; have q2 := hW.2; clear hW; simp only [List.getElem?_toArray, List.getElem?_cons_zero, List.getElem?_cons_succ] at q1; go_simp; try with_reducible rfl) ?_
          refine wpS_take HS2 (by kernel_rfl) (by intro W hW; have q1 := hW.1.cell 1; have q2 := hW.2; clear hW; simp only [List.getElem?_toArray, List.getElem?_cons_zero, List.getElem?_cons_succ] at q1; go_simp; try with_reducible rfl) ?_
          refine wpS_take HS2 (by kernel_rfl) (by intro W hW; have q1 := hW.1.cell 1; have q2 := hW.2; clear hW; simp only [List.getElem?_toArray, List.getElem?_cons_zero, List.getElem?_cons_succ] at q1; go_simp; try with_reducible rfl) ?_
          refine wpS_take HS2 (by kernel_rfl) (by intro W hW; have q1 := hW.1.cell 1; have q2 := hW.2; clear hW; simp only [List.getElem?_toArray, List.getElem?_cons_zero, List.getElem?_cons_succ] at q1; go_simp; try with_reducible rfl) ?_
          refine wpS_take HS2 (by kernel_rfl) (by intro W hW; have q1 := hW.1.cell 1; have q2 := hW.2; clear hW; simp only [List.getElem?_toArray, List.getElem?_cons_zero, List.getElem?_cons_succ] at q1; go_simp; try with_reducible rfl) ?_
          refine wpS_nil ?_
          have hCF := Lib.hid (containsFunc_any (some ad) i c g0 (L.take i) ⟨id, kind, S, sn, sc, sf, su, tf, tu, bs⟩ w2 ((HL.out.later HB2.out).take (Nat.le_of_lt hlt)) HS2.out.1 (by omega))
          have hic : i ≤ n := Nat.le_of_lt hlt
          have hic2 : i ≤ c := by omega
          go_simp
          have hne : (kind != K0) = false := by rw [bne, hkk]; rfl
          cases hany : (L.take i).any (fun o => o.id == id)
          · simp only [hany] at hCF
            have hgo : Hid (checkFrom L (n - (i + 1)) (i + 1) = checkFrom L n 0) := by show _ = _; rw [← check_on hlt hk.out hb1.out hany]; exact hck.out
            go_wp2_with (go_at_call 38; refine hCF.out.mono ?_; rintro e w3 ⟨rfl, hb⟩; have HB3 := Lib.hid (below_then HB2.out hb); clear hb)
            go_roundw
            case rel => exact ⟨i + 1, by simp, by omega, hgo, HB3.out⟩
            case measure => simp [intOf]; omega
          · simp only [hany] at hCF
            have hfin : Hid (checkOf L = (63, (i : Int))) := by show _ = _; rw [hr.out, ← hck.out]; exact check_twice hlt hk.out hb1.out hany
            go_wp2_with (go_at_call 38; refine hCF.out.mono ?_; rintro e w3 ⟨rfl, hb⟩; have HB3 := Lib.hid (below_then HB2.out hb); clear hb)
            go_ret2
            exact ckAt ⟨rfl, HB3.out⟩ hfin.out
    · obtain rfl : i = n := by omega
      have hfin : Hid (checkOf L = (0, 0)) := by show _ = _; rw [hr.out, ← hck.out, Nat.sub_self]; rfl
      go_wp2
      go_ret2
      exact ckAt ⟨rfl, HB.out⟩ hfin.out
end Go.Proofs.Ytkgdeneonobibaa
