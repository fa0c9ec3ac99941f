/-
  What Put and Take make of a heap, by its members.
-/
import Derived.Test.YtgpgcjdbppehjaaQue10
namespace Go.Proofs.Ytgpgcjdbppehjaa
set_option linter.unusedVariables false
open Go.RowKit

structure QI (l : List Ent) : Prop where
  heap : Heap_ l l.length
  dist : Dist l
theorem QI.nil : QI [] := ⟨fun c a b hc hcn => by simp at hcn, fun i j a b h => by simp at h⟩
theorem push_facts {l : List Ent} (h : QI l) {e : Ent} (hn : posL l e.what = none) : QI (pushL l e) ∧ (∀ x, x ∈ pushL l e ↔ x ∈ l ∨ x = e) ∧ (pushL l e).length = l.length + 1 := by
  have hd := (posF_push h.dist hn).1
  obtain ⟨hs, _⟩ := up_same l.length (l ++ [e]) (by simp)
  have hlen : (pushL l e).length = l.length + 1 := by unfold pushL; rw [hs.len]; simp
  refine ⟨⟨?_, hs.dist hd⟩, fun x => ?_, hlen⟩
  · rw [hlen]
    refine up_heap (l.length + 1) l.length (l ++ [e]) (by simp) (by omega) ?_ ?_
    · intro c a b hc hcn hne ha hb
      have hp := par_lt hc
      rw [List.getElem?_append_left (by omega)] at ha hb
      exact h.heap c a b hc (by omega) (fun h => h) ha hb
    · intro c a b hc hcn hp h0
      unfold par at hp; omega
  · unfold pushL
    rw [hs.mem, List.mem_append]
    simp
theorem fix_facts {l : List Ent} (h : QI l) {i : Nat} {e : Ent} (hi : l[i]? = some e) (a r : Int) :
    QI (fixL (l.set i ⟨a, r, e.what⟩) i) ∧ (∀ x, x ∈ fixL (l.set i ⟨a, r, e.what⟩) i ↔ x = ⟨a, r, e.what⟩ ∨ (x ∈ l ∧ x.what ≠ e.what)) ∧ (fixL (l.set i ⟨a, r, e.what⟩) i).length = l.length := by
  have hil := (List.getElem?_eq_some_iff.1 hi).1
  have hd' := (set_facts h.dist hi a r).1
  have hlen : (l.set i ⟨a, r, e.what⟩).length = l.length := by simp
  obtain ⟨hs, _, hle⟩ := down_same (l.set i ⟨a, r, e.what⟩).length _ i (l.set i ⟨a, r, e.what⟩) rfl (Nat.le_refl _) (by omega)
  have hg : ∀ c, c ≠ i → (l.set i ⟨a, r, e.what⟩)[c]? = l[c]? := fun c hc => by rw [List.getElem?_set_ne (Ne.symm hc)]
  have hO : Over (l.set i ⟨a, r, e.what⟩) i (l.set i ⟨a, r, e.what⟩).length := by
    intro c x y hc hcn hp h0 hx hy
    have hpl := par_lt hc
    have hpi := par_lt h0
    rw [hg _ (by omega)] at hx hy
    exact geE_trans (h.heap c x e hc (by omega) (fun h => h) hx (by rw [hp]; exact hi)) (h.heap i e y h0 hil (fun h => h) hi hy)
  have key := down_heap (l.set i ⟨a, r, e.what⟩).length _ i (l.set i ⟨a, r, e.what⟩) False rfl (Nat.le_refl _) (by omega) (fun c x y hc hcn hB hx hy => by
    have h1 : par c ≠ i := fun e => hB (.inl e)
    have h2 : c ≠ i := fun e => hB (.inr ⟨e, fun h => h⟩)
    rw [hg _ h2] at hx
    rw [hg _ h1] at hy
    exact h.heap c x y hc (by omega) (fun h => h) hx hy) hO
  have hmem0 : ∀ x, x ∈ l.set i ⟨a, r, e.what⟩ ↔ x = ⟨a, r, e.what⟩ ∨ (x ∈ l ∧ x.what ≠ e.what) := by
    intro x
    constructor
    · intro hx
      obtain ⟨j, hj⟩ := List.getElem?_of_mem hx
      by_cases hji : j = i
      · subst hji
        rw [List.getElem?_set_self hil] at hj
        injection hj with hj
        exact .inl hj.symm
      · rw [hg j hji] at hj
        exact .inr ⟨List.mem_of_getElem? hj, fun he => hji (h.dist j i x e hj hi he)⟩
    · rintro (rfl | ⟨hx, hne⟩)
      · exact List.mem_of_getElem? (i := i) (List.getElem?_set_self hil)
      · obtain ⟨j, hj⟩ := List.getElem?_of_mem hx
        have hji : j ≠ i := by rintro rfl; rw [hi] at hj; injection hj with hj; exact hne (by rw [hj])
        exact List.mem_of_getElem? (i := j) (by rw [hg j hji]; exact hj)
  unfold fixL
  split
  · rename_i hmv
    rcases key with ⟨k1, _⟩ | ⟨k1, k2⟩
    · omega
    · exact ⟨⟨by rw [hs.len]; exact k2, hs.dist hd'⟩, fun x => by rw [hs.mem]; exact hmem0 x, by rw [hs.len]; exact hlen⟩
  · rename_i hmv
    rcases key with ⟨k1, k2, k3⟩ | ⟨k1, k2⟩
    · obtain ⟨hu, _⟩ := up_same i (l.set i ⟨a, r, e.what⟩) (by omega)
      rw [k2]
      refine ⟨⟨?_, hu.dist hd'⟩, fun x => by rw [hu.mem]; exact hmem0 x, by rw [hu.len]; exact hlen⟩
      rw [hu.len]
      exact up_heap _ i _ (Nat.le_refl _) (by omega) (fun c x y hc hcn hB hx hy => k3 c x y hc hcn (fun h => hB h.1) hx hy) hO
    · omega
theorem pop_facts {l : List Ent} (h : QI l) {n : Nat} (hl : l.length = n + 1) {z : Ent} (hz : l[0]? = some z) :
    QI (popL l n) ∧ (∀ x, x ∈ popL l n ↔ x ∈ l ∧ x ≠ z) ∧ (popL l n).length = n ∧ ∀ x ∈ l, lessE x z = false := by
  have hleast : ∀ x ∈ l, lessE x z = false := fun x hx => by
    obtain ⟨c, hc⟩ := List.getElem?_of_mem hx
    exact heap_least h.heap (Nat.le_refl _) hz c x (List.getElem?_eq_some_iff.1 hc).1 hc
  have hsl : (swapL l 0 n).length = n + 1 := by rw [swapL_len, hl]
  have hsn : (swapL l 0 n)[n]? = some z := by rw [swapL_get (by omega) (by omega)]; unfold swp; split <;> (try rw [if_pos rfl]) <;> simp_all
  have hsd : Dist (swapL l 0 n) := h.dist.swap (by omega) (by omega)
  have hD : Same (swapL l 0 n) (downL (swapL l 0 n) 0 n).1 ∧ (downL (swapL l 0 n) 0 n).1[n]? = some z ∧ Heap_ (downL (swapL l 0 n) 0 n).1 n := by
    by_cases h0 : n = 0
    · subst h0
      rw [downL, dif_neg (by omega)]
      exact ⟨Same.refl _, hsn, fun c a b hc hcn => by omega⟩
    · obtain ⟨h1, h2, _⟩ := down_same n _ 0 (swapL l 0 n) rfl (by omega) (by omega)
      refine ⟨h1, by rw [h2 n (Nat.le_refl _)]; exact hsn, ?_⟩
      have hg : ∀ c, c ≠ 0 → c ≠ n → (swapL l 0 n)[c]? = l[c]? := fun c hc hcn => by
        rw [swapL_get (by omega) (by omega)]; unfold swp; rw [if_neg hc, if_neg hcn]
      rcases down_heap n _ 0 (swapL l 0 n) True rfl (by omega) (by omega) (fun c x y hc hcn hB hx hy => by
        have hp : par c ≠ 0 := fun e => hB (.inl e)
        have hpl := par_lt hc
        rw [hg c (by omega) (by omega)] at hx
        rw [hg _ hp (by omega)] at hy
        exact h.heap c x y hc (by omega) (fun h => h) hx hy) (fun c x y hc hcn hp h00 => by omega) with ⟨_, k2, k3⟩ | ⟨_, k2⟩
      · rw [k2]
        exact fun c x y hc hcn _ hx hy => k3 c x y hc hcn (fun h => h.2 trivial) hx hy
      · exact k2
  obtain ⟨hs, hdn, hh⟩ := hD
  have hdl : (downL (swapL l 0 n) 0 n).1.length = n + 1 := by rw [hs.len, hsl]
  have hdd := hs.dist hsd
  have hlen : (popL l n).length = n := by unfold popL; rw [List.length_take, hdl]; omega
  have hget : ∀ c, c < n → (popL l n)[c]? = (downL (swapL l 0 n) 0 n).1[c]? := fun c hc => by unfold popL; rw [List.getElem?_take, if_pos hc]
  refine ⟨⟨?_, ?_⟩, fun x => ?_, hlen, hleast⟩
  · rw [hlen]
    intro c x y hc hcn _ hx hy
    have hpl := par_lt hc
    rw [hget _ (by omega)] at hx hy
    exact hh c x y hc hcn (fun h => h) hx hy
  · intro p q x y hp hq he
    have hpn := (List.getElem?_eq_some_iff.1 hp).1
    have hqn := (List.getElem?_eq_some_iff.1 hq).1
    rw [hlen] at hpn hqn
    rw [hget _ hpn] at hp
    rw [hget _ hqn] at hq
    exact hdd p q x y hp hq he
  · have hm : x ∈ (downL (swapL l 0 n) 0 n).1 ↔ x ∈ l := by rw [hs.mem, swapL_mem (by omega) (by omega)]
    rw [← hm]
    constructor
    · intro hx
      obtain ⟨c, hc⟩ := List.getElem?_of_mem hx
      have hcn := (List.getElem?_eq_some_iff.1 hc).1
      rw [hlen] at hcn
      rw [hget _ hcn] at hc
      refine ⟨List.mem_of_getElem? hc, ?_⟩
      rintro rfl
      have := hdd c n _ _ hc hdn rfl
      omega
    · rintro ⟨hx, hne⟩
      obtain ⟨c, hc⟩ := List.getElem?_of_mem hx
      have hcl := (List.getElem?_eq_some_iff.1 hc).1
      rw [hdl] at hcl
      have hcn : c ≠ n := by rintro rfl; rw [hdn] at hc; injection hc with hc; exact hne hc.symm
      exact List.mem_of_getElem? (i := c) (by rw [hget c (by omega)]; exact hc)
theorem dist_nodup {l : List Ent} (h : Dist l) : l.Nodup := by
  rw [List.nodup_iff_pairwise_ne, List.pairwise_iff_getElem]
  intro i j hi hj hij he
  have := h i j l[i] l[j] (List.getElem?_eq_getElem hi) (List.getElem?_eq_getElem hj) (by rw [he])
  omega
/-- Two heaps with the same members: as long, and with the same first. -/
theorem same_len {l l' : List Ent} (h : Dist l) (h' : Dist l') (hm : ∀ x, x ∈ l ↔ x ∈ l') : l.length = l'.length :=
  ((List.perm_ext_iff_of_nodup (dist_nodup h) (dist_nodup h')).2 hm).length_eq
theorem same_first {l l' : List Ent} (h : QI l) (h' : QI l') (hm : ∀ x, x ∈ l ↔ x ∈ l') {z z' : Ent} (hz : l[0]? = some z) (hz' : l'[0]? = some z') : z = z' := by
  have h1 := heap_least h.heap (Nat.le_refl _) hz
  have h2 := heap_least h'.heap (Nat.le_refl _) hz'
  obtain ⟨c, hc⟩ := List.getElem?_of_mem ((hm z').2 (List.mem_of_getElem? hz'))
  obtain ⟨d, hd⟩ := List.getElem?_of_mem ((hm z).1 (List.mem_of_getElem? hz))
  exact lessE_total (h2 d z (List.getElem?_eq_some_iff.1 hd).1 hd) (h1 c z' (List.getElem?_eq_some_iff.1 hc).1 hc)
end Go.Proofs.Ytgpgcjdbppehjaa
