/-
  Chains of keys: what Check and Choose say of a chain and of the law's own copy of it is the same.
-/
import Derived.Test.YtkgdeneonobibaaAut16
namespace Go.Proofs.Ytkgdeneonobibaa
set_option linter.unusedVariables false
open Go.RowKit

/-- What counts of a key. -/
def AK.core (k : AK) : Int × Int × Nat × Int × Int × Int × Int := (k.id, k.kind, k.n, k.sf, k.su, k.tf, k.tu)
theorem core_may {k k' : AK} (h : k'.core = k.core) : mayB k' = mayB k := by
  unfold AK.core at h
  simp only [Prod.mk.injEq] at h
  obtain ⟨h1, h2, h3, h4, h5, h6, h7⟩ := h
  unfold mayB
  rw [h2, h3, h4, h5, h6, h7]
theorem core_kind {k k' : AK} (h : k'.core = k.core) : k'.kind = k.kind := by
  unfold AK.core at h
  simp only [Prod.mk.injEq] at h
  exact h.2.1
theorem core_id {k k' : AK} (h : k'.core = k.core) : k'.id = k.id := by
  unfold AK.core at h
  simp only [Prod.mk.injEq] at h
  exact h.1
theorem core_get {L L' : List AK} (h : L'.map AK.core = L.map AK.core) (i : Nat) : (L'[i]? = none ∧ L[i]? = none) ∨ ∃ k' k, L'[i]? = some k' ∧ L[i]? = some k ∧ k'.core = k.core := by
  have e : (L'.map AK.core)[i]? = (L.map AK.core)[i]? := by rw [h]
  rw [List.getElem?_map, List.getElem?_map] at e
  cases h1 : L'[i]? <;> cases h2 : L[i]? <;> rw [h1, h2] at e
  · exact .inl ⟨rfl, rfl⟩
  · simp at e
  · simp at e
  · simp at e
    exact .inr ⟨_, _, rfl, rfl, e⟩
theorem core_kind0 {L L' : List AK} (h : L'.map AK.core = L.map AK.core) : kind0 L' = kind0 L := by
  cases L <;> cases L' <;> simp at h
  · rfl
  · exact core_kind h.1
theorem core_any {L L' : List AK} (h : L'.map AK.core = L.map AK.core) (i : Nat) (x : Int) : (L'.take i).any (fun o => o.id == x) = (L.take i).any (fun o => o.id == x) := by
  have e : ∀ M : List AK, M.any (fun o => o.id == x) = (M.map AK.core).any (fun c => c.1 == x) := fun M => by
    rw [List.any_map]; rfl
  rw [e, e, List.map_take, List.map_take, h]
theorem core_check {L L' : List AK} (h : L'.map AK.core = L.map AK.core) : checkOf L' = checkOf L := by
  have hl : L'.length = L.length := by have := congrArg List.length h; simpa using this
  have hf : ∀ f i, checkFrom L' f i = checkFrom L f i := by
    intro f
    induction f with
    | zero => intro i; rfl
    | succ f ih =>
      intro i
      unfold checkFrom
      rcases core_get h i with ⟨h1, h2⟩ | ⟨k', k, h1, h2, hc⟩
      · rw [h1, h2]
      · rw [h1, h2]
        simp only
        have hb : badB L' k' = badB L k := by unfold badB; rw [core_may hc, core_kind hc, core_kind0 h]
        rw [hb, core_id hc, core_any h, ih]
  unfold checkOf
  rw [hl, hf]
theorem core_choose {L L' : List AK} (now : Int) (h : L'.map AK.core = L.map AK.core) : chooseOf L' now = chooseOf L now := by
  have hl : L'.length = L.length := by have := congrArg List.length h; simpa using this
  have hb : ∀ b k' k, k'.core = k.core → better L' b k' = better L b k := by
    intro b k' k hc
    unfold better
    unfold AK.core at hc
    simp only [Prod.mk.injEq] at hc
    obtain ⟨a1, a2, a3, a4, a5, a6, a7⟩ := hc
    rcases core_get h b.toNat with ⟨h1, h2⟩ | ⟨o', o, h1, h2, ho⟩
    · rw [h1, h2]
    · unfold AK.core at ho
      simp only [Prod.mk.injEq] at ho
      obtain ⟨b1, b2, b3, b4, b5, b6, b7⟩ := ho
      rw [h1, h2]
      simp only
      rw [a1, a4, b1, b4]
  have hf : ∀ i, chooseTo L' now i = chooseTo L now i := by
    intro i
    induction i with
    | zero => rfl
    | succ i ih =>
      unfold chooseTo
      rcases core_get h i with ⟨h1, h2⟩ | ⟨k', k, h1, h2, hc⟩
      · rw [h1, h2]; exact ih
      · rw [h1, h2, ih]
        simp only
        rw [hb _ _ _ hc]
        unfold AK.core at hc
        simp only [Prod.mk.injEq] at hc
        rw [hc.2.2.2.1, hc.2.2.2.2.1]
  unfold chooseOf
  rw [hl, hf]
theorem core_of {W : World} {b : Nat} {L L' : List AK} (h : WdAll W b L L') (hl : L'.length = L.length) : L'.map AK.core = L.map AK.core := by
  refine List.ext_getElem? fun i => ?_
  rw [List.getElem?_map, List.getElem?_map]
  cases h1 : L'[i]? with
  | none =>
    have : L[i]? = none := by rw [List.getElem?_eq_none_iff] at h1 ⊢; omega
    rw [this]
  | some k' =>
    have hi := (List.getElem?_eq_some_iff.1 h1).1
    have h2 : L[i]? = some L[i] := List.getElem?_eq_getElem (by omega)
    have hw := h i _ _ h2 h1
    rw [h2]
    simp only [Option.map_some]
    unfold AK.core
    rw [hw.id, hw.kind, hw.n, hw.sf, hw.su, hw.tf, hw.tu]
theorem keys_of_given {W : World} {b n : Nat} {v : Value} {A : Option Addr} {L L' : List AK} (hL : Keys W A n L) (hs : ∀ k ∈ L, k.n ≤ 131072) (hl : L'.length = n) (ho : W.ownsRow b 70 7 v n (L'.flatMap AK.cells)) (hw : WdAll W b L L') :
    ∃ A' c', v = .slice A' n c' ∧ Keys W A' n L' ∧ n ≤ c' ∧ c' ≤ 9223372036854775807 := by
  have hok : ∀ k' ∈ L', KOk W k' := by
    intro k' hk'
    obtain ⟨i, hi⟩ := List.getElem?_of_mem hk'
    have hlt := (List.getElem?_eq_some_iff.1 hi).1
    obtain ⟨k, hk⟩ : ∃ k, L[i]? = some k := ⟨_, List.getElem?_eq_getElem (by rw [hL.len]; omega)⟩
    have w := hw i _ _ hk hi
    have hm := List.mem_of_getElem? hk
    have ok := hL.ok k hm
    have hn := hs k hm
    obtain ⟨g, hA, hc, _, hB⟩ := w.own
    have hbl : k.bs.length = k.n := ok.sec.u8len
    refine ⟨by rw [w.id]; exact ok.id, by rw [w.kind]; exact ok.kind, ?_, by rw [w.bs]; exact ok.oct, by rw [w.n, hc]; omega, by rw [hc]; omega⟩
    rw [hA, w.n, w.bs]
    have h1 := (Blk.reads (xs := u8s (wide k.bs)) hB (n := k.n) (by rw [u8s_length, wide_length]; omega)).more (B' := W.heap.size) hB.lt
    rwa [u8s_take, ← hbl, wide_take, hbl] at h1
  rcases ho.2 with ⟨hv, h0⟩ | ⟨g, cap, cur, hv, _, hc, h1, h2, h3, h4⟩
  · subst h0
    exact ⟨none, 0, hv, ⟨⟨by rw [ho.1], fun h => absurd h (by omega)⟩, hl, hok⟩, Nat.le_refl _, by omega⟩
  · refine ⟨_, cap, hv, ⟨⟨ho.1, fun h => ⟨_, rfl, (Blk.lt (show Blk W g 70 cur from hc)), fun j u hu => ?_⟩⟩, hl, hok⟩, h1, h2⟩
    rw [add_none, Nat.zero_add, Blk.cell (show Blk W g 70 cur from hc) j]
    rw [← h4, List.getElem?_take] at hu
    split at hu
    · simpa using hu
    · cases hu
end Go.Proofs.Ytkgdeneonobibaa
