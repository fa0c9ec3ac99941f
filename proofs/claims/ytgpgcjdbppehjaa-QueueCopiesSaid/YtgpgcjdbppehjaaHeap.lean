/-
  Heaps, in plain lists: what up and down do, that a heap's first is its least, and who is in it.
-/
namespace Go.Proofs.Ytgpgcjdbppehjaa
/-- An entry. -/
structure Ent where
  at_ : Int
  rank : Int
  what : Int
deriving DecidableEq
def lessE (a b : Ent) : Bool := if a.at_ ≠ b.at_ then decide (a.at_ < b.at_) else if a.rank ≠ b.rank then decide (a.rank < b.rank) else decide (a.what < b.what)
theorem lessE_iff (a b : Ent) : lessE a b = true ↔ a.at_ < b.at_ ∨ (a.at_ = b.at_ ∧ (a.rank < b.rank ∨ (a.rank = b.rank ∧ a.what < b.what))) := by
  unfold lessE
  split
  · simp; omega
  · split
    · simp; omega
    · simp; omega
theorem lessE_asymm {a b : Ent} (h : lessE a b = true) : lessE b a = false := by
  rw [← Bool.not_eq_true]; intro h'
  rw [lessE_iff] at h h'; omega
theorem lessE_irrefl (a : Ent) : lessE a a = false := by
  rw [← Bool.not_eq_true]; intro h; rw [lessE_iff] at h; omega
theorem lessE_trans {a b c : Ent} (h : lessE a b = true) (k : lessE b c = true) : lessE a c = true := by
  rw [lessE_iff] at *; omega
/-- a is not ahead of b, and b not ahead of c. -/
theorem geE_trans {a b c : Ent} (h : lessE a b = false) (k : lessE b c = false) : lessE a c = false := by
  rw [← Bool.not_eq_true] at *
  intro h'; rw [lessE_iff] at *; omega
theorem geE_of {a b c : Ent} (h : lessE a b = false) (k : lessE c b = true) : lessE a c = false := by
  rw [← Bool.not_eq_true] at *
  intro h'; rw [lessE_iff] at *; omega
theorem lessE_total {a b : Ent} (h : lessE a b = false) (k : lessE b a = false) : a = b := by
  rw [← Bool.not_eq_true] at *
  rw [lessE_iff] at *
  obtain ⟨x, y, z⟩ := a; obtain ⟨x', y', z'⟩ := b
  simp only [Ent.mk.injEq] at *; omega

/-- Two of them change places. -/
def swapL (l : List Ent) (i j : Nat) : List Ent := match l[i]?, l[j]? with
  | some a, some b => (l.set i b).set j a
  | _, _ => l
def swp (i j k : Nat) : Nat := if k = i then j else if k = j then i else k
theorem swp_swp (i j k : Nat) : swp i j (swp i j k) = k := by unfold swp; split <;> (try split) <;> (try split) <;> (try split) <;> omega
theorem swapL_len (l : List Ent) (i j : Nat) : (swapL l i j).length = l.length := by
  unfold swapL; split <;> simp
theorem swapL_eq {l : List Ent} {i j : Nat} {a b : Ent} (hi : l[i]? = some a) (hj : l[j]? = some b) : swapL l i j = (l.set i b).set j a := by unfold swapL; rw [hi, hj]
theorem swapL_get {l : List Ent} {i j : Nat} (hi : i < l.length) (hj : j < l.length) (k : Nat) : (swapL l i j)[k]? = l[swp i j k]? := by
  rw [swapL_eq (List.getElem?_eq_getElem hi) (List.getElem?_eq_getElem hj)]
  rw [List.getElem?_set, List.getElem?_set]
  unfold swp
  simp only [List.length_set]
  by_cases h1 : j = k
  · subst h1
    by_cases h2 : j = i
    · subst h2; simp [hi]
    · simp [hj, h2, hi]
  · by_cases h2 : i = k
    · subst h2; simp [h1, hi, hj]
    · rw [if_neg h1, if_neg h2, if_neg (fun h => h2 h.symm), if_neg (fun h => h1 h.symm)]
theorem swapL_mem {l : List Ent} {i j : Nat} (hi : i < l.length) (hj : j < l.length) (e : Ent) : e ∈ swapL l i j ↔ e ∈ l := by
  rw [List.mem_iff_getElem?, List.mem_iff_getElem?]
  constructor
  · rintro ⟨k, h⟩; rw [swapL_get hi hj] at h; exact ⟨_, h⟩
  · rintro ⟨k, h⟩; refine ⟨swp i j k, ?_⟩; rw [swapL_get hi hj, swp_swp]; exact h
/-- No entry's What twice. -/
def Dist (l : List Ent) : Prop := ∀ (i j : Nat) (a b : Ent), l[i]? = some a → l[j]? = some b → a.what = b.what → i = j
theorem Dist.swap {l : List Ent} {i j : Nat} (h : Dist l) (hi : i < l.length) (hj : j < l.length) : Dist (swapL l i j) := by
  intro p q a b hp hq e
  rw [swapL_get hi hj] at hp hq
  have := h _ _ a b hp hq e
  rw [← swp_swp i j p, this, swp_swp]
/-- Where an entry stands. -/
def posL (l : List Ent) (x : Int) : Option Nat := l.findIdx? fun e => decide (e.what = x)
theorem posL_some {l : List Ent} (hd : Dist l) {x : Int} {i : Nat} : posL l x = some i ↔ ∃ e, l[i]? = some e ∧ e.what = x := by
  unfold posL
  rw [List.findIdx?_eq_some_iff_getElem]
  constructor
  · rintro ⟨h, h1, _⟩
    exact ⟨l[i], List.getElem?_eq_getElem h, by simpa using h1⟩
  · rintro ⟨e, h1, h2⟩
    obtain ⟨h3, h4⟩ := List.getElem?_eq_some_iff.1 h1
    refine ⟨h3, by simp [h4, h2], fun j hj => ?_⟩
    have hjl : j < l.length := by omega
    simp only [decide_eq_true_eq]
    intro h5
    have := hd j i l[j] e (List.getElem?_eq_getElem hjl) h1 (by rw [h5, h2])
    omega
theorem posL_none {l : List Ent} {x : Int} : posL l x = none ↔ ∀ e ∈ l, e.what ≠ x := by
  unfold posL
  rw [List.findIdx?_eq_none_iff]
  simp
theorem posL_lt {l : List Ent} {x : Int} {i : Nat} (h : posL l x = some i) : i < l.length := by
  unfold posL at h
  rw [List.findIdx?_eq_some_iff_getElem] at h
  exact h.1

/-! Up and down. -/
def par (c : Nat) : Nat := (c - 1) / 2
def lt_ (l : List Ent) (i j : Nat) : Bool := match l[i]?, l[j]? with
  | some a, some b => lessE a b
  | _, _ => false
theorem lt_eq {l : List Ent} {i j : Nat} {a b : Ent} (hi : l[i]? = some a) (hj : l[j]? = some b) : lt_ l i j = lessE a b := by unfold lt_; rw [hi, hj]
def upL (l : List Ent) (j : Nat) : List Ent :=
  if j = 0 then l else if lt_ l j (par j) then upL (swapL l (par j) j) (par j) else l
termination_by j
decreasing_by unfold par; omega
def child (l : List Ent) (i n : Nat) : Nat := if 2 * i + 2 < n ∧ lt_ l (2 * i + 2) (2 * i + 1) = true then 2 * i + 2 else 2 * i + 1
theorem child_gt (l : List Ent) (i n : Nat) : i < child l i n := by unfold child; split <;> omega
theorem child_lt {l : List Ent} {i n : Nat} (h : 2 * i + 1 < n) : child l i n < n := by unfold child; split <;> omega
def downL (l : List Ent) (i n : Nat) : List Ent × Nat :=
  if h : 2 * i + 1 < n then (if lt_ l (child l i n) i then downL (swapL l i (child l i n)) (child l i n) n else (l, i)) else (l, i)
termination_by n - i
decreasing_by have := child_lt (l := l) h; have := child_gt l i n; omega
/-- The heap's order, among the first n, but where B says. -/
def HeapX (B : Nat → Prop) (l : List Ent) (n : Nat) : Prop := ∀ c a b, 0 < c → c < n → ¬ B c → l[c]? = some a → l[par c]? = some b → lessE a b = false
def Heap_ (l : List Ent) (n : Nat) : Prop := HeapX (fun _ => False) l n
/-- i's children are not ahead of i's parent. -/
def Over (l : List Ent) (i n : Nat) : Prop := ∀ c a b, 0 < c → c < n → par c = i → 0 < i → l[c]? = some a → l[par i]? = some b → lessE a b = false
theorem par_lt {c : Nat} (h : 0 < c) : par c < c := by unfold par; omega
theorem up_heap (n : Nat) : ∀ (j : Nat) (l : List Ent), n ≤ l.length → j < n → HeapX (fun c => c = j) l n → Over l j n → Heap_ (upL l j) n := by
  intro j
  induction j using Nat.strongRecOn with
  | ind j ih =>
    intro l hn hj hH hO
    rw [upL]
    by_cases h0 : j = 0
    · rw [if_pos h0]
      intro c a b hc hcn _ ha hb
      exact hH c a b hc hcn (by omega) ha hb
    · rw [if_neg h0]
      have hp := par_lt (c := j) (by omega)
      have hjl : j < l.length := by omega
      have hpl : par j < l.length := by omega
      obtain ⟨a, ha⟩ : ∃ a, l[j]? = some a := ⟨_, List.getElem?_eq_getElem hjl⟩
      obtain ⟨b, hb⟩ : ∃ b, l[par j]? = some b := ⟨_, List.getElem?_eq_getElem hpl⟩
      rw [lt_eq ha hb]
      cases hab : lessE a b
      · rw [if_neg (by simp)]
        intro c x y hc hcn _ hx hy
        by_cases hcj : c = j
        · subst hcj
          rw [ha] at hx; rw [hb] at hy
          injection hx with hx; injection hy with hy
          rw [← hx, ← hy]; exact hab
        · exact hH c x y hc hcn hcj hx hy
      · rw [if_pos rfl]
        have G := fun k => swapL_get (l := l) (i := par j) (j := j) hpl hjl k
        refine ih (par j) hp _ (by rw [swapL_len]; exact hn) (by omega) ?_ ?_
        · intro c x y hc hcn hcp hx hy
          rw [G] at hx hy
          unfold swp at hx hy
          rw [if_neg hcp] at hx
          by_cases hcj : c = j
          · subst hcj
            rw [if_pos rfl, hb] at hx
            rw [if_pos rfl, ha] at hy
            injection hx with hx; injection hy with hy
            rw [← hx, ← hy]; exact lessE_asymm hab
          · rw [if_neg hcj] at hx
            by_cases hpc : par c = par j
            · rw [if_pos hpc, ha] at hy
              injection hy with hy
              have := hH c x b hc hcn hcj hx (by rw [hpc]; exact hb)
              rw [← hy]; exact geE_of this hab
            · rw [if_neg hpc] at hy
              by_cases hpj : par c = j
              · rw [if_pos hpj, hb] at hy
                injection hy with hy
                rw [← hy]
                exact hO c x b hc hcn hpj (by omega) hx hb
              · rw [if_neg hpj] at hy
                exact hH c x y hc hcn hcj hx hy
        · intro c x y hc hcn hpc h0p hx hy
          rw [G] at hx hy
          have hpp := par_lt h0p
          have e1 : swp (par j) j (par (par j)) = par (par j) := by unfold swp; rw [if_neg (by omega), if_neg (by omega)]
          rw [e1] at hy
          have hbp := hH (par j) b y h0p (by omega) (by omega) hb hy
          unfold swp at hx
          have hcc := par_lt hc
          rw [if_neg (by omega)] at hx
          by_cases hcj : c = j
          · rw [if_pos hcj, hb] at hx
            injection hx with hx
            rw [← hx]; exact hbp
          · rw [if_neg hcj] at hx
            exact geE_trans (hH c x b hc hcn hcj hx (by rw [hpc]; exact hb)) hbp
theorem down_heap (n : Nat) : ∀ (m i : Nat) (l : List Ent) (B : Prop), n - i = m → n ≤ l.length → i < n → HeapX (fun c => par c = i ∨ (c = i ∧ ¬ B)) l n → Over l i n →
    ((downL l i n).2 = i ∧ (downL l i n).1 = l ∧ HeapX (fun c => c = i ∧ ¬ B) l n) ∨ (i < (downL l i n).2 ∧ Heap_ (downL l i n).1 n) := by
  intro m
  induction m using Nat.strongRecOn with
  | ind m ih =>
    intro i l B hm hn hi hH hO
    rw [downL]
    by_cases h1 : 2 * i + 1 < n
    · rw [dif_pos h1]
      have hcl := child_lt (l := l) h1
      have hcg := child_gt l i n
      have hpc : par (child l i n) = i := by unfold child par; split <;> omega
      obtain ⟨a, ha⟩ : ∃ a, l[child l i n]? = some a := ⟨_, List.getElem?_eq_getElem (by omega)⟩
      obtain ⟨b, hb⟩ : ∃ b, l[i]? = some b := ⟨_, List.getElem?_eq_getElem (by omega)⟩
      have hmin : ∀ c x, 0 < c → c < n → par c = i → l[c]? = some x → lessE x a = false := by
        intro c x hc hcn hpi hx
        have hc2 : c = 2 * i + 1 ∨ c = 2 * i + 2 := by unfold par at hpi; omega
        by_cases h2 : 2 * i + 2 < n ∧ lt_ l (2 * i + 2) (2 * i + 1) = true
        · have e : child l i n = 2 * i + 2 := by unfold child; rw [if_pos h2]
          rw [e] at ha
          rcases hc2 with rfl | rfl
          · rw [lt_eq ha hx] at h2
            exact lessE_asymm h2.2
          · rw [ha] at hx; injection hx with hx; rw [← hx]; exact lessE_irrefl a
        · have e : child l i n = 2 * i + 1 := by unfold child; rw [if_neg h2]
          rw [e] at ha
          rcases hc2 with rfl | rfl
          · rw [ha] at hx; injection hx with hx; rw [← hx]; exact lessE_irrefl a
          · rw [lt_eq hx ha] at h2
            cases hxa : lessE x a
            · rfl
            · exact absurd ⟨hcn, hxa⟩ h2
      rw [lt_eq ha hb]
      cases hab : lessE a b
      · rw [if_neg (by simp)]
        refine .inl ⟨rfl, rfl, ?_⟩
        intro c x y hc hcn hnB hx hy
        by_cases hpi : par c = i
        · rw [hpi, hb] at hy
          injection hy with hy
          rw [← hy]
          exact geE_trans (hmin c x hc hcn hpi hx) hab
        · exact hH c x y hc hcn (fun h => h.elim hpi hnB) hx hy
      · rw [if_pos rfl]
        have G := fun k => swapL_get (l := l) (i := i) (j := child l i n) (by omega) (by omega) k
        have key := ih (n - child l i n) (by omega) (child l i n) (swapL l i (child l i n)) True rfl (by rw [swapL_len]; exact hn) hcl ?_ ?_
        · refine .inr ?_
          rcases key with ⟨e1, e2, e3⟩ | ⟨e1, e2⟩
          · refine ⟨by rw [e1]; exact hcg, ?_⟩
            rw [e2]
            intro c x y hc hcn _ hx hy
            exact e3 c x y hc hcn (fun h => h.2 trivial) hx hy
          · exact ⟨by omega, e2⟩
        · intro c x y hc hcn hnB hx hy
          rw [G] at hx hy
          have hpj : par c ≠ child l i n := fun h => hnB (.inl h)
          unfold swp at hx hy
          by_cases hci : c = i
          · subst hci
            rw [if_pos rfl, ha] at hx
            have hp0 := par_lt hc
            rw [if_neg (by omega), if_neg hpj] at hy
            injection hx with hx
            rw [← hx]
            exact hO _ a y (by omega) hcl hpc hc ha hy
          · rw [if_neg hci] at hx
            by_cases hcj : c = child l i n
            · rw [if_pos hcj, hb] at hx
              rw [hcj, hpc, if_pos rfl, ha] at hy
              injection hx with hx; injection hy with hy
              rw [← hx, ← hy]; exact lessE_asymm hab
            · rw [if_neg hcj] at hx
              by_cases hpi : par c = i
              · rw [if_pos hpi, ha] at hy
                injection hy with hy
                rw [← hy]; exact hmin c x hc hcn hpi hx
              · rw [if_neg hpi, if_neg hpj] at hy
                exact hH c x y hc hcn (fun h => h.elim hpi (fun h => hci h.1)) hx hy
        · intro c x y hc hcn hpj h0 hx hy
          rw [G] at hx hy
          have hcc := par_lt hc
          have e1 : swp i (child l i n) (par (child l i n)) = child l i n := by rw [hpc]; unfold swp; rw [if_pos rfl]
          have e2 : swp i (child l i n) c = c := by unfold swp; rw [if_neg (by omega), if_neg (by omega)]
          rw [e1] at hy
          rw [e2] at hx
          exact hH c x y hc hcn (fun h => h.elim (fun h => by omega) (fun h => by omega)) hx (by rw [hpj]; exact hy)
    · rw [dif_neg h1]
      refine .inl ⟨rfl, rfl, ?_⟩
      intro c x y hc hcn hnB hx hy
      refine hH c x y hc hcn (fun h => h.elim (fun h => ?_) hnB) hx hy
      unfold par at h; omega
/-- The first is the least. -/
theorem heap_least {l : List Ent} {n : Nat} (h : Heap_ l n) (hn : n ≤ l.length) {z : Ent} (hz : l[0]? = some z) : ∀ (c : Nat) (a : Ent), c < n → l[c]? = some a → lessE a z = false := by
  intro c
  induction c using Nat.strongRecOn with
  | ind c ih =>
    intro a hc ha
    by_cases h0 : c = 0
    · subst h0
      rw [ha] at hz; injection hz with hz; rw [hz]; exact lessE_irrefl z
    · have hp := par_lt (c := c) (by omega)
      obtain ⟨b, hb⟩ : ∃ b, l[par c]? = some b := ⟨_, List.getElem?_eq_getElem (by omega)⟩
      exact geE_trans (h c a b (by omega) hc (fun h => h) ha hb) (ih _ hp b (by omega) hb)
/-! What stays. -/
structure Same (l l' : List Ent) : Prop where
  len : l'.length = l.length
  mem : ∀ e, e ∈ l' ↔ e ∈ l
  dist : Dist l → Dist l'
theorem Same.refl (l : List Ent) : Same l l := ⟨rfl, fun _ => Iff.rfl, fun h => h⟩
theorem Same.trans {a b c : List Ent} (h : Same a b) (k : Same b c) : Same a c := ⟨k.len.trans h.len, fun e => (k.mem e).trans (h.mem e), fun d => k.dist (h.dist d)⟩
theorem Same.swap {l : List Ent} {i j : Nat} (hi : i < l.length) (hj : j < l.length) : Same l (swapL l i j) := ⟨swapL_len _ _ _, swapL_mem hi hj, fun h => h.swap hi hj⟩
theorem up_same : ∀ (j : Nat) (l : List Ent), j < l.length → Same l (upL l j) ∧ ∀ k, j < k → (upL l j)[k]? = l[k]? := by
  intro j
  induction j using Nat.strongRecOn with
  | ind j ih =>
    intro l hj
    rw [upL]
    split
    · exact ⟨Same.refl l, fun _ _ => rfl⟩
    · split
      · have hp := par_lt (c := j) (by omega)
        obtain ⟨h1, h2⟩ := ih (par j) hp (swapL l (par j) j) (by rw [swapL_len]; omega)
        refine ⟨(Same.swap (by omega) hj).trans h1, fun k hk => ?_⟩
        rw [h2 k (by omega), swapL_get (by omega) hj]
        unfold swp
        rw [if_neg (by omega), if_neg (by omega)]
      · exact ⟨Same.refl l, fun _ _ => rfl⟩
theorem down_same (n : Nat) : ∀ (m i : Nat) (l : List Ent), n - i = m → n ≤ l.length → i < n → Same l (downL l i n).1 ∧ (∀ k, n ≤ k → (downL l i n).1[k]? = l[k]?) ∧ i ≤ (downL l i n).2 := by
  intro m
  induction m using Nat.strongRecOn with
  | ind m ih =>
    intro i l hm hn hi
    rw [downL]
    split
    · rename_i h
      have hcl := child_lt (l := l) h
      have hcg := child_gt l i n
      split
      · obtain ⟨h1, h2, h3⟩ := ih (n - child l i n) (by omega) (child l i n) (swapL l i (child l i n)) rfl (by rw [swapL_len]; exact hn) hcl
        refine ⟨(Same.swap (by omega) (by omega)).trans h1, fun k hk => ?_, by omega⟩
        rw [h2 k hk, swapL_get (by omega) (by omega)]
        unfold swp
        rw [if_neg (by omega), if_neg (by omega)]
      · exact ⟨Same.refl l, fun _ _ => rfl, Nat.le_refl _⟩
    · exact ⟨Same.refl l, fun _ _ => rfl, Nat.le_refl _⟩
end Go.Proofs.Ytgpgcjdbppehjaa
