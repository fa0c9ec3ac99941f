/-
  Chains of keys: the reference's Check, walked.
-/
import Derived.Test.YtkgdeneonobibaaAut6
namespace Go.Proofs.Ytkgdeneonobibaa
set_option linter.unusedVariables false
open Go.RowKit

theorem Keys.cells_at {w : World} {ad : Addr} {n i : Nat} {L : List AK} {k : AK} (h : Keys w (some ad) n L) (hk : L[i]? = some k) :
    (w.cell? (ad.add (i * 7)) = some (.int .u8 k.id) ∧ w.cell? ⟨(ad.add (i * 7)).block, (ad.add (i * 7)).off + 1, none⟩ = some (.int .u16 k.kind) ∧ w.cell? ⟨(ad.add (i * 7)).block, (ad.add (i * 7)).off + 2, none⟩ = some (.slice k.A k.n k.c) ∧
     w.cell? ⟨(ad.add (i * 7)).block, (ad.add (i * 7)).off + 3, none⟩ = some (.int .i64 k.sf) ∧ w.cell? ⟨(ad.add (i * 7)).block, (ad.add (i * 7)).off + 4, none⟩ = some (.int .i64 k.su) ∧ w.cell? ⟨(ad.add (i * 7)).block, (ad.add (i * 7)).off + 5, none⟩ = some (.int .i64 k.tf) ∧ w.cell? ⟨(ad.add (i * 7)).block, (ad.add (i * 7)).off + 6, none⟩ = some (.int .i64 k.tu)) := by
  have hi : i < n := by
    have := h.len
    have := (List.getElem?_eq_some_iff.1 hk).1
    omega
  obtain ⟨ad', k', e, _, hk', _, hc⟩ := h.at_ hi
  injection e with e; subst e
  have : some k' = some k := hk'.out.symm.trans hk
  injection this with this; subst this
  exact hc
def rckRel (w : World) (L : List AK) (n : Nat) (i : Value) (wr : World) : Prop := ∃ j : Nat, i = .int .i64 j ∧ j ≤ n ∧ Hid (checkFrom L (n - j) j = checkFrom L n 0) ∧ Below w.heap.size w wr
def rckIn (w : World) (L : List AK) (id : Int) (i : Nat) (v : Value) (wr : World) : Prop := ∃ j d : Nat, v = .int .i64 j ∧ j ≤ i ∧ Hid (∀ o ∈ L.take j, (o.id == id) = false) ∧ wr = w.drewN d
set_option maxHeartbeats 4000000 in
theorem refCheck_any (A : Option Addr) (n c : Nat) (L : List AK) (w : World) (hL : Keys w A n L) (hc : n ≤ c) (hn : n ≤ 9223372036854775807) :
    Calls Try.prog 13 #[.slice A n c] w fun e w' => CkAt w w' (checkOf L) e := by
  have HL := Lib.hid hL
  clear hL
  by_cases h16 : 16 < n
  · have hr : Hid (checkOf L = (64, 16)) := by show _ = _; unfold checkOf; rw [if_pos (by rw [HL.out.len]; exact h16)]
    have d0 : decide (16 < (n : Int)) = true := decide_eq_true (by omega)
    go_enter Try.func13, Try.ntmps13
    go_wp2
    go_ret2
    exact ckAt ⟨rfl, Below.refl _ _⟩ hr.out
  have hr : Hid (checkOf L = checkFrom L n 0) := by show _ = _; unfold checkOf; rw [if_neg (by rw [HL.out.len]; exact h16), HL.out.len]
  have d0 : decide (16 < (n : Int)) = false := decide_eq_false (by omega)
  have hn2 : n ≤ 16 := by omega
  go_enter Try.func13, Try.ntmps13
  go_wp2
  go_loopw [4] (rckRel w L n) (fun i _ => n - (intOf i).toNat)
  case atStart => exact ⟨0, rfl, by omega, rfl, Below.refl _ _⟩
  case round =>
    obtain ⟨i, rfl, hi, hck, hb⟩ := hrel
    have HB := Lib.hid hb
    clear hb
    by_cases hlt : i < n
    · obtain ⟨ad, k, rfl, hbl, hk, hok, _⟩ := (HL.out.later HB.out).at_ hlt
      have HM : Hid (∀ W : World, Calls Try.prog 40 #[k.v] W fun e w' => e = .returned (.bool (mayB k)) ∧ Below W.heap.size W w') := fun W => refMay_any k W hok.out.kind.1
      have hbad : Hid (badB L k = (!mayB k || !(k.kind == kind0 L))) := rfl
      have h0n : 0 < n := by omega
      obtain ⟨id, kind, S, sn, sc, sf, su, tf, tu, bs⟩ := k
      clear hok
      go_wp2
      have HS : Hid (Keys wr.drew (some ad) n L) := HL.out.later HB.out.drew
      have HB1 : Hid (Below w.heap.size w wr.drew) := HB.out.drew
      generalize hK0 : kind0 L = K0 at *
      refine wp_region_s (fun W : World => Keys W (some ad) n L) [(0, true), (1, true), (2, true), (3, true), (4, false), (5, true), (6, true), (7, true), (8, true), (9, true), (10, true), (12, true), (13, true), (14, true), (11, true), (15, true), (16, true), (17, true)] (by kernel_rfl) (fun _ d _ _ _ h => by cases d <;> exact h) ?_
      simp only [List.map_cons, List.map_nil, nthOp_zero, nthOp_succ]
      generalize wr.drew = w1 at *
      refine wpS_take HS (by kernel_rfl) (by intro W hW; obtain ⟨q0, q1, q2, q3, q4, q5, q6⟩ := hW.cells_at hk.out; have p0 := hW.first h0n; rw [hK0] at p0; clear hW; simp only at q0 q1 q2 q3 q4 q5 q6; go_simp; try with_reducible rfl) ?_
      refine wpS_take HS (by kernel_rfl) (by intro W hW; obtain ⟨q0, q1, q2, q3, q4, q5, q6⟩ := hW.cells_at hk.out; have p0 := hW.first h0n; rw [hK0] at p0; clear hW; simp only at q0 q1 q2 q3 q4 q5 q6; go_simp; try with_reducible rfl) ?_
      refine wpS_take HS (by kernel_rfl) (by intro W hW; obtain ⟨q0, q1, q2, q3, q4, q5, q6⟩ := hW.cells_at hk.out; have p0 := hW.first h0n; rw [hK0] at p0; clear hW; simp only at q0 q1 q2 q3 q4 q5 q6; go_simp; try with_reducible rfl) ?_
      refine wpS_take HS (by kernel_rfl) (by intro W hW; obtain ⟨q0, q1, q2, q3, q4, q5, q6⟩ := hW.cells_at hk.out; have p0 := hW.first h0n; rw [hK0] at p0; clear hW; simp only at q0 q1 q2 q3 q4 q5 q6; go_simp; try with_reducible rfl) ?_
      refine wpS_do fun K1 hK1 => ?_
      go_wp2_with fail
      refine (HM.out w1).mono ?_
      rintro e w2 ⟨rfl, hb⟩
      have HS2 : Hid (Keys w2 (some ad) n L) := HS.out.later hb
      have HB2 := Lib.hid (below_then HB1.out hb)
      clear hb HS HB1 HM
      go_wp2
      refine hK1.out _ _ HS2.out ?_
      clear hK1 K1
      generalize hmay : mayB _ = M at *
      cases M
      · have hb1 : Hid (badB L ⟨id, kind, S, sn, sc, sf, su, tf, tu, bs⟩ = true) := by show _ = _; rw [hbad.out]; rfl
        refine wpS_take HS2 (by kernel_rfl) (by intro W hW; obtain ⟨q0, q1, q2, q3, q4, q5, q6⟩ := hW.cells_at hk.out; have p0 := hW.first h0n; rw [hK0] at p0; clear hW; simp only at q0 q1 q2 q3 q4 q5 q6; go_simp; try with_reducible rfl) ?_
        refine wpS_take HS2 (by kernel_rfl) (by intro W hW; obtain ⟨q0, q1, q2, q3, q4, q5, q6⟩ := hW.cells_at hk.out; have p0 := hW.first h0n; rw [hK0] at p0; clear hW; simp only at q0 q1 q2 q3 q4 q5 q6; go_simp; try with_reducible rfl) ?_
        refine wpS_skip HS2 (by kernel_rfl) ?_
        refine wpS_skip HS2 (by kernel_rfl) ?_
        refine wpS_skip HS2 (by kernel_rfl) ?_
        refine wpS_skip HS2 (by kernel_rfl) ?_
        refine wpS_skip HS2 (by kernel_rfl) ?_
        refine wpS_skip HS2 (by kernel_rfl) ?_
        refine wpS_skip HS2 (by kernel_rfl) ?_
        refine wpS_skip HS2 (by kernel_rfl) ?_
        refine wpS_skip HS2 (by kernel_rfl) ?_
        refine wpS_skip HS2 (by kernel_rfl) ?_
        refine wpS_take HS2 (by kernel_rfl) (by intro W hW; obtain ⟨q0, q1, q2, q3, q4, q5, q6⟩ := hW.cells_at hk.out; have p0 := hW.first h0n; rw [hK0] at p0; clear hW; simp only at q0 q1 q2 q3 q4 q5 q6; go_simp; try with_reducible rfl) ?_
        refine wpS_nil ?_
        have hfin : Hid (checkOf L = (26, (i : Int))) := by show _ = _; rw [hr.out, ← hck.out]; exact check_bad hlt hk.out hb1.out
        go_simp
        go_wp2
        go_ret2
        exact ckAt ⟨rfl, HB2.out⟩ hfin.out
      · cases hkk : (kind == K0)
        · have hb1 : Hid (badB L ⟨id, kind, S, sn, sc, sf, su, tf, tu, bs⟩ = true) := by show _ = _; rw [hbad.out]; simp only [hkk]; rfl
          refine wpS_take HS2 (by kernel_rfl) (by intro W hW; obtain ⟨q0, q1, q2, q3, q4, q5, q6⟩ := hW.cells_at hk.out; have p0 := hW.first h0n; rw [hK0] at p0; clear hW; simp only at q0 q1 q2 q3 q4 q5 q6; go_simp; try with_reducible rfl) ?_
          refine wpS_take HS2 (by kernel_rfl) (by intro W hW; obtain ⟨q0, q1, q2, q3, q4, q5, q6⟩ := hW.cells_at hk.out; have p0 := hW.first h0n; rw [hK0] at p0; clear hW; simp only at q0 q1 q2 q3 q4 q5 q6; go_simp; try with_reducible rfl) ?_
          refine wpS_take HS2 (by kernel_rfl) (by intro W hW; obtain ⟨q0, q1, q2, q3, q4, q5, q6⟩ := hW.cells_at hk.out; have p0 := hW.first h0n; rw [hK0] at p0; clear hW; simp only at q0 q1 q2 q3 q4 q5 q6; go_simp; try with_reducible rfl) ?_
          refine wpS_take HS2 (by kernel_rfl) (by intro W hW; obtain ⟨q0, q1, q2, q3, q4, q5, q6⟩ := hW.cells_at hk.out; have p0 := hW.first h0n; rw [hK0] at p0; clear hW; simp only at q0 q1 q2 q3 q4 q5 q6; go_simp; try with_reducible rfl) ?_
          refine wpS_take HS2 (by kernel_rfl) (by intro W hW; obtain ⟨q0, q1, q2, q3, q4, q5, q6⟩ := hW.cells_at hk.out; have p0 := hW.first h0n; rw [hK0] at p0; clear hW; simp only at q0 q1 q2 q3 q4 q5 q6; go_simp; try with_reducible rfl) ?_
          refine wpS_take HS2 (by kernel_rfl) (by intro W hW; obtain ⟨q0, q1, q2, q3, q4, q5, q6⟩ := hW.cells_at hk.out; have p0 := hW.first h0n; rw [hK0] at p0; clear hW; simp only at q0 q1 q2 q3 q4 q5 q6; go_simp; try with_reducible rfl) ?_
          refine wpS_take HS2 (by kernel_rfl) (by intro W hW; obtain ⟨q0, q1, q2, q3, q4, q5, q6⟩ := hW.cells_at hk.out; have p0 := hW.first h0n; rw [hK0] at p0; clear hW; simp only at q0 q1 q2 q3 q4 q5 q6; go_simp; try with_reducible rfl) ?_
          refine wpS_take HS2 (by kernel_rfl) (by intro W hW; obtain ⟨q0, q1, q2, q3, q4, q5, q6⟩ := hW.cells_at hk.out; have p0 := hW.first h0n; rw [hK0] at p0; clear hW; simp only at q0 q1 q2 q3 q4 q5 q6; go_simp; try with_reducible rfl) ?_
          refine wpS_take HS2 (by kernel_rfl) (by intro W hW; obtain ⟨q0, q1, q2, q3, q4, q5, q6⟩ := hW.cells_at hk.out; have p0 := hW.first h0n; rw [hK0] at p0; clear hW; simp only at q0 q1 q2 q3 q4 q5 q6; go_simp; try with_reducible rfl) ?_
          refine wpS_take HS2 (by kernel_rfl) (by intro W hW; obtain ⟨q0, q1, q2, q3, q4, q5, q6⟩ := hW.cells_at hk.out; have p0 := hW.first h0n; rw [hK0] at p0; clear hW; simp only at q0 q1 q2 q3 q4 q5 q6; go_simp; try with_reducible rfl) ?_
          refine wpS_take HS2 (by kernel_rfl) (by intro W hW; obtain ⟨q0, q1, q2, q3, q4, q5, q6⟩ := hW.cells_at hk.out; have p0 := hW.first h0n; rw [hK0] at p0; clear hW; simp only at q0 q1 q2 q3 q4 q5 q6; go_simp; try with_reducible rfl) ?_
          refine wpS_take HS2 (by kernel_rfl) (by intro W hW; obtain ⟨q0, q1, q2, q3, q4, q5, q6⟩ := hW.cells_at hk.out; have p0 := hW.first h0n; rw [hK0] at p0; clear hW; simp only at q0 q1 q2 q3 q4 q5 q6; go_simp; try with_reducible rfl) ?_
          refine wpS_take HS2 (by kernel_rfl) (by intro W hW; obtain ⟨q0, q1, q2, q3, q4, q5, q6⟩ := hW.cells_at hk.out; have p0 := hW.first h0n; rw [hK0] at p0; clear hW; simp only at q0 q1 q2 q3 q4 q5 q6; go_simp; try with_reducible rfl) ?_
          refine wpS_nil ?_
          have hfin : Hid (checkOf L = (26, (i : Int))) := by show _ = _; rw [hr.out, ← hck.out]; exact check_bad hlt hk.out hb1.out
          go_simp
          go_wp2
          go_ret2
          exact ckAt ⟨rfl, HB2.out⟩ hfin.out
        · have hb1 : Hid (badB L ⟨id, kind, S, sn, sc, sf, su, tf, tu, bs⟩ = false) := by show _ = _; rw [hbad.out]; simp only [hkk]; rfl
          refine wpS_take HS2 (by kernel_rfl) (by intro W hW; obtain ⟨q0, q1, q2, q3, q4, q5, q6⟩ := hW.cells_at hk.out; have p0 := hW.first h0n; rw [hK0] at p0; clear hW; simp only at q0 q1 q2 q3 q4 q5 q6; go_simp; try with_reducible rfl) ?_
          refine wpS_take HS2 (by kernel_rfl) (by intro W hW; obtain ⟨q0, q1, q2, q3, q4, q5, q6⟩ := hW.cells_at hk.out; have p0 := hW.first h0n; rw [hK0] at p0; clear hW; simp only at q0 q1 q2 q3 q4 q5 q6; go_simp; try with_reducible rfl) ?_
          refine wpS_take HS2 (by kernel_rfl) (by intro W hW; obtain ⟨q0, q1, q2, q3, q4, q5, q6⟩ := hW.cells_at hk.out; have p0 := hW.first h0n; rw [hK0] at p0; clear hW; simp only at q0 q1 q2 q3 q4 q5 q6; go_simp; try with_reducible rfl) ?_
          refine wpS_take HS2 (by kernel_rfl) (by intro W hW; obtain ⟨q0, q1, q2, q3, q4, q5, q6⟩ := hW.cells_at hk.out; have p0 := hW.first h0n; rw [hK0] at p0; clear hW; simp only at q0 q1 q2 q3 q4 q5 q6; go_simp; try with_reducible rfl) ?_
          refine wpS_take HS2 (by kernel_rfl) (by intro W hW; obtain ⟨q0, q1, q2, q3, q4, q5, q6⟩ := hW.cells_at hk.out; have p0 := hW.first h0n; rw [hK0] at p0; clear hW; simp only at q0 q1 q2 q3 q4 q5 q6; go_simp; try with_reducible rfl) ?_
          refine wpS_take HS2 (by kernel_rfl) (by intro W hW; obtain ⟨q0, q1, q2, q3, q4, q5, q6⟩ := hW.cells_at hk.out; have p0 := hW.first h0n; rw [hK0] at p0; clear hW; simp only at q0 q1 q2 q3 q4 q5 q6; go_simp; try with_reducible rfl) ?_
          refine wpS_take HS2 (by kernel_rfl) (by intro W hW; obtain ⟨q0, q1, q2, q3, q4, q5, q6⟩ := hW.cells_at hk.out; have p0 := hW.first h0n; rw [hK0] at p0; clear hW; simp only at q0 q1 q2 q3 q4 q5 q6; go_simp; try with_reducible rfl) ?_
          refine wpS_take HS2 (by kernel_rfl) (by intro W hW; obtain ⟨q0, q1, q2, q3, q4, q5, q6⟩ := hW.cells_at hk.out; have p0 := hW.first h0n; rw [hK0] at p0; clear hW; simp only at q0 q1 q2 q3 q4 q5 q6; go_simp; try with_reducible rfl) ?_
          refine wpS_take HS2 (by kernel_rfl) (by intro W hW; obtain ⟨q0, q1, q2, q3, q4, q5, q6⟩ := hW.cells_at hk.out; have p0 := hW.first h0n; rw [hK0] at p0; clear hW; simp only at q0 q1 q2 q3 q4 q5 q6; go_simp; try with_reducible rfl) ?_
          refine wpS_take HS2 (by kernel_rfl) (by intro W hW; obtain ⟨q0, q1, q2, q3, q4, q5, q6⟩ := hW.cells_at hk.out; have p0 := hW.first h0n; rw [hK0] at p0; clear hW; simp only at q0 q1 q2 q3 q4 q5 q6; go_simp; try with_reducible rfl) ?_
          refine wpS_take HS2 (by kernel_rfl) (by intro W hW; obtain ⟨q0, q1, q2, q3, q4, q5, q6⟩ := hW.cells_at hk.out; have p0 := hW.first h0n; rw [hK0] at p0; clear hW; simp only at q0 q1 q2 q3 q4 q5 q6; go_simp; try with_reducible rfl) ?_
          refine wpS_take HS2 (by kernel_rfl) (by intro W hW; obtain ⟨q0, q1, q2, q3, q4, q5, q6⟩ := hW.cells_at hk.out; have p0 := hW.first h0n; rw [hK0] at p0; clear hW; simp only at q0 q1 q2 q3 q4 q5 q6; go_simp; try with_reducible rfl) ?_
          refine wpS_take HS2 (by kernel_rfl) (by intro W hW; obtain ⟨q0, q1, q2, q3, q4, q5, q6⟩ := hW.cells_at hk.out; have p0 := hW.first h0n; rw [hK0] at p0; clear hW; simp only at q0 q1 q2 q3 q4 q5 q6; go_simp; try with_reducible rfl) ?_
          refine wpS_nil ?_
          have hic : i ≤ n := Nat.le_of_lt hlt
          have hne : (kind != K0) = false := by rw [bne, hkk]; rfl
          obtain ⟨c0, c1, c2, c3, c4, c5, c6⟩ := HS2.out.cells_at hk.out
          simp only at c0 c1 c2 c3 c4 c5 c6
          go_simp
          go_wp2
          go_loopw [5] (rckIn w2 L id i) (fun i_1 _ => i - (intOf i_1).toNat)
          case atStart => exact ⟨0, 0, rfl, by omega, by simp [Hid], rfl⟩
          case round =>
            obtain ⟨j, d, rfl, hj, hno, rfl⟩ := hrel
            by_cases hjl : j < i
            · obtain ⟨o, ho⟩ : ∃ o, L[j]? = some o := ⟨_, List.getElem?_eq_getElem (by rw [HS2.out.len]; omega)⟩
              have ho := Lib.hid ho
              obtain ⟨e0, e1, e2, e3, e4, e5, e6⟩ := HS2.out.cells_at ho.out
              have hjn : j < n := by omega
              obtain ⟨oid, okind, oS, osn, osc, osf, osu, otf, otu, obs⟩ := o
              simp only at e0 e1 e2 e3 e4 e5 e6
              go_wp2
              cases hs : (oid == id)
              · go_quiet (fail)
                go_wp2
                go_roundw
                case rel =>
                  refine ⟨j + 1, _, by simp, by omega, ?_, rfl⟩
                  intro o ho2
                  rw [List.take_add_one, List.mem_append] at ho2
                  rcases ho2 with h | h
                  · exact hno.out o h
                  · rw [ho.out] at h
                    simp at h
                    subst h
                    exact hs
                case measure => simp [intOf]; omega
              · have hfin : Hid (checkOf L = (63, (i : Int))) := by
                  show _ = _
                  rw [hr.out, ← hck.out]
                  refine check_twice hlt hk.out hb1.out (List.any_eq_true.2 ⟨⟨oid, okind, oS, osn, osc, osf, osu, otf, otu, obs⟩, ?_, hs⟩)
                  refine List.mem_of_getElem? (i := j) ?_
                  rw [List.getElem?_take, if_pos hjl]
                  exact ho.out
                go_quiet (fail)
                go_wp2
                go_ret2
                exact ckAt ⟨rfl, below_drewN (below_drewN HB2.out _) _⟩ hfin.out
            · obtain rfl : j = i := by omega
              have hgo : Hid (checkFrom L (n - (j + 1)) (j + 1) = checkFrom L n 0) := by
                show _ = _
                rw [← check_on hlt hk.out hb1.out (List.any_eq_false.2 fun o ho => by rw [hno.out o ho]; decide)]
                exact hck.out
              go_wp2
              go_roundw
              case rel => exact ⟨j + 1, by simp, by omega, hgo, below_drewN HB2.out _⟩
              case measure => simp [intOf]; omega
    · obtain rfl : i = n := by omega
      have hfin : Hid (checkOf L = (0, 0)) := by show _ = _; rw [hr.out, ← hck.out, Nat.sub_self]; rfl
      go_wp2
      go_ret2
      exact ckAt ⟨rfl, HB.out⟩ hfin.out
end Go.Proofs.Ytkgdeneonobibaa
