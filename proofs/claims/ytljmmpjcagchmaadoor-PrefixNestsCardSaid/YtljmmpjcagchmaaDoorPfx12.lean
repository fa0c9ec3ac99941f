/-
  The reference's split, walked.
-/
import Derived.Test.YtljmmpjcagchmaaDoorPfx11
namespace Go.Proofs.YtljmmpjcagchmaaDoor
set_option linter.unusedVariables false
open Go.RowKit

/-- A text, parted at a byte. -/
def splitL (c : UInt8) : List UInt8 → List (List UInt8)
  | [] => [[]]
  | x :: r => if x = c then [] :: splitL c r else match splitL c r with
    | [] => [[x]]
    | w :: ws => (x :: w) :: ws
theorem splitL_ne (c : UInt8) (l : List UInt8) : splitL c l ≠ [] := by
  cases l with
  | nil => simp [splitL]
  | cons x r =>
    unfold splitL
    split
    · simp
    · split <;> simp
/-- What has been read of the word stands ahead. -/
def glue (p : List UInt8) (ws : List (List UInt8)) : List (List UInt8) := match ws with
  | [] => [p]
  | w :: r => (p ++ w) :: r
theorem glue_nil {ws : List (List UInt8)} (h : ws ≠ []) : glue [] ws = ws := by cases ws <;> simp_all [glue]
theorem split_hit {c : UInt8} {r p : List UInt8} : glue p (splitL c (c :: r)) = p :: splitL c r := by
  rw [splitL, if_pos rfl, glue, List.append_nil]
theorem split_miss {c x : UInt8} {r p : List UInt8} (h : x ≠ c) : glue p (splitL c (x :: r)) = glue (p ++ [x]) (splitL c r) := by
  rw [splitL, if_neg h]
  have := splitL_ne c r
  cases hs : splitL c r with
  | nil => exact absurd hs this
  | cons w ws => simp [glue]

theorem el_str : El Tryd.prog 56 9 1 16 := El.mk' Tryd.underlying56 (z := .string ⟨#[]⟩) (by kernel_rfl) rfl (by decide)
theorem one_str (l : List UInt8) : ∀ u ∈ [str l], u.oneCell' = true := by intro u hu; simp at hu; subst hu; rfl
structure SRel (w : World) (s : ByteArray) (c : UInt8) (v frm i : Value) (wr : World) : Prop where
  ex : ∃ (k f : Nat) (done : List (List UInt8)), i = .int .i64 k ∧ frm = .int .i64 f ∧ k ≤ s.size + 1 ∧ done.length ≤ k ∧
    Hid (if k ≤ s.size then (f ≤ k ∧ splitL c (bytesOf s) = done ++ glue (((bytesOf s).drop f).take (k - f)) (splitL c ((bytesOf s).drop k))) else splitL c (bytesOf s) = done) ∧
    Hid (wr.ownsRow w.heap.size 9 1 v done.length (done.map str))
  kept : Below w.heap.size w wr
set_option maxRecDepth 100000 in
set_option maxHeartbeats 2000000 in
theorem split_any (w : World) (s : ByteArray) (c : UInt8) (hm : s.size ≤ 1099511627776) :
    Calls Tryd.prog 40 #[.string s, .int .u8 c.toNat] w fun e w' => ∃ v, e = .returned v ∧ w'.ownsRow w.heap.size 9 1 v (splitL c (bytesOf s)).length ((splitL c (bytesOf s)).map str) ∧ Below w.heap.size w w' := by
  go_enter Tryd.func40, Tryd.ntmps40
  go_wp2
  go_loopw [5, 6, 7] (SRel w s c) (fun _ _ i _ => s.size + 1 - (intOf i).toNat)
  case atStart => exact ⟨⟨0, 0, [], rfl, rfl, by omega, by simp, by show ite _ _ _; rw [if_pos (by omega)]; exact ⟨by omega, by simp; exact (glue_nil (splitL_ne _ _)).symm⟩, World.ownsRow_nil _ _ _ _⟩, Below.refl _ _⟩
  case round =>
    obtain ⟨⟨k, f, done, rfl, rfl, hk, hdl, hsp, ho⟩, hb⟩ := hrel
    have hl := len_bytes s
    by_cases hks : k ≤ s.size
    · have hsp' := hsp.out
      rw [if_pos hks] at hsp'
      obtain ⟨hfk, hsp'⟩ := hsp'
      have HSP := Lib.hid hsp'
      have hksi : (k : Int) ≤ s.size := by omega
      have hfki : (f : Int) ≤ k := by omega
      have hext : s.extract f k = ⟨((((bytesOf s).drop f).take (k - f))).toArray⟩ := Lib.extract_eq s f k
      clear hsp hsp'
      by_cases hlt : k < s.size
      · have hlti : (k : Int) < s.size := by omega
        have hne : ((k : Int) == s.size) = false := by simp; omega
        have hd := drop_at hlt
        by_cases hc : s[k] = c
        · have hci : (s[k].toNat : Int) = c.toNat := by rw [hc]
          have hnew : Hid (if k + 1 ≤ s.size then (k + 1 ≤ k + 1 ∧ splitL c (bytesOf s) = (done ++ [((bytesOf s).drop f).take (k - f)]) ++ glue (((bytesOf s).drop (k + 1)).take (k + 1 - (k + 1))) (splitL c ((bytesOf s).drop (k + 1)))) else splitL c (bytesOf s) = (done ++ [((bytesOf s).drop f).take (k - f)])) := by
            show ite _ _ _
            rw [if_pos (by omega)]
            refine ⟨by omega, ?_⟩
            rw [HSP.out, hd, hc, split_hit, Nat.sub_self, List.take_zero, glue_nil (splitL_ne _ _)]
            simp
          clear HSP hd
          generalize ((bytesOf s).drop f).take (k - f) = wd at *
          go_wp2_with (at_builtin; refine wpList_app el_str rfl (.tmp 25) (.tmp 30) rfl (ho.out.alloc _) rfl (Reads.one_new wr (str wd) 9) rfl (one_str wd) (by simp only [maxLen]; omega) (by omega) (by rw [World.size_alloc]; have := hb.size; omega) ?_; intro v1 w1 hown1 hbw1 hg1 hat1; have HO1 := Lib.hid hown1; have HB1 : Hid (Below w.heap.size w w1) := (hb.alloc hb.size _).trans hbw1; clear hown1 hbw1 hg1 hat1; refine Hid.out ?_)
          refine Lib.hid ?_
          go_wp2
          go_roundw
          case rel => exact ⟨⟨k + 1, k + 1, done ++ [wd], by simp, by simp, by omega, by simp; omega, hnew, by show World.ownsRow _ _ _ _ _ _ _; simpa using HO1.out⟩, HB1.out⟩
          case measure => simp [intOf]; omega
        · have hci : ((s[k].toNat : Int) == c.toNat) = false := by
            rw [beq_eq_false_iff_ne]
            intro h; exact hc (UInt8.toNat_inj.1 (by omega))
          have htk : ((bytesOf s).drop f).take (k + 1 - f) = ((bytesOf s).drop f).take (k - f) ++ [s[k]] := by
            rw [show k + 1 - f = (k - f) + 1 by omega, List.take_add_one, List.getElem?_drop, show f + (k - f) = k by omega]
            have h1 : k < (bytesOf s).length := by omega
            rw [List.getElem?_eq_getElem h1]
            rfl
          have hnew : Hid (if k + 1 ≤ s.size then (f ≤ k + 1 ∧ splitL c (bytesOf s) = done ++ glue (((bytesOf s).drop f).take (k + 1 - f)) (splitL c ((bytesOf s).drop (k + 1)))) else splitL c (bytesOf s) = done) := by
            show ite _ _ _
            rw [if_pos (by omega)]
            refine ⟨by omega, ?_⟩
            rw [HSP.out, hd, split_miss hc, htk]
          clear HSP hd htk hext
          go_wp2
          go_roundw
          case rel => exact ⟨⟨k + 1, f, done, by simp, rfl, by omega, by omega, hnew, ho⟩, hb⟩
          case measure => simp [intOf]; omega
      · have hks2 : k = s.size := by omega
        have hne : ((k : Int) == s.size) = true := beq_iff_eq.2 (by omega)
        have hnew : Hid (if k + 1 ≤ s.size then (k + 1 ≤ k + 1 ∧ splitL c (bytesOf s) = (done ++ [((bytesOf s).drop f).take (k - f)]) ++ glue (((bytesOf s).drop (k + 1)).take (k + 1 - (k + 1))) (splitL c ((bytesOf s).drop (k + 1)))) else splitL c (bytesOf s) = (done ++ [((bytesOf s).drop f).take (k - f)])) := by
          show ite _ _ _
          rw [if_neg (by omega), HSP.out, drop_end (s := s) (i := k) (by omega)]
          simp [splitL, glue]
        clear HSP hks2
        generalize ((bytesOf s).drop f).take (k - f) = wd at *
        go_wp2_with (at_builtin; refine wpList_app el_str rfl (.tmp 25) (.tmp 30) rfl (ho.out.alloc _) rfl (Reads.one_new wr (str wd) 9) rfl (one_str wd) (by simp only [maxLen]; omega) (by omega) (by rw [World.size_alloc]; have := hb.size; omega) ?_; intro v1 w1 hown1 hbw1 hg1 hat1; have HO1 := Lib.hid hown1; have HB1 : Hid (Below w.heap.size w w1) := (hb.alloc hb.size _).trans hbw1; clear hown1 hbw1 hg1 hat1; refine Hid.out ?_)
        refine Lib.hid ?_
        go_wp2
        go_roundw
        case rel => exact ⟨⟨k + 1, k + 1, done ++ [wd], by simp, by simp, by omega, by simp; omega, hnew, by show World.ownsRow _ _ _ _ _ _ _; simpa using HO1.out⟩, HB1.out⟩
        case measure => simp [intOf]; omega
    · have hksi : decide ((k : Int) ≤ s.size) = false := decide_eq_false (by omega)
      have hsp' := hsp.out
      rw [if_neg hks] at hsp'
      have HSP := Lib.hid hsp'
      clear hsp hsp'
      go_wp2
      go_ret
      rw [HSP.out]
      exact ⟨_, rfl, ho.out, hb⟩
end Go.Proofs.YtljmmpjcagchmaaDoor
