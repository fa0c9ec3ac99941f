/-
  Rows that may be wider than their slices say: what they are, and append onto them.
-/
import Derived.Test.YtpncbggjngamgaaMapL
import Derived.Test.YtpncbggjngamgaaBase2
import Derived.ArgAppend
import Derived.Deep.WholeRow
namespace Go.Proofs.Ytpncbggjngamgaa
set_option linter.unusedVariables false
open Go.RowKit

theorem new_at (w : World) (A B : Obj) : ((w.alloc A).alloc B).heap[w.heap.size + 1]? = some B := by
  have := heap_alloc_new (w.alloc A) B
  rwa [World.size_alloc] at this
theorem below_two (w : World) (A B : Obj) : Below w.heap.size w ((w.alloc A).alloc B) := ((Below.refl _ _).alloc (Nat.le_refl _) _).alloc (by rw [World.size_alloc]; omega) _
theorem kept_setC (w : World) (g i : Nat) (u : Value) : Kept (fun j => j = g) w (w.setCell ⟨g, i, none⟩ u) := (Kept.refl (fun j => j = g) w).setCell (p := ⟨g, i, none⟩) (fun _ => rfl) u
theorem blk_ne {w : World} {g g' : Nat} {t t' : TypeId} {cs cs' : Array Value} (h : Blk w g t cs) (h' : Blk w g' t' cs') (hn : t ≠ t') : g ≠ g' := by
  rintro rfl
  have : some (Obj.cells cs t) = some (Obj.cells cs' t') := h.symm.trans h'
  injection this with this
  injection this with _ this
  exact hn this
theorem MapL.cell_none {κ : Type} [DecidableEq κ] {enc : κ → Value} {w : World} {b i : Nat} {L : List (κ × Value)} {v : Value} (h : MapL enc w b L) (hc : w.cell? ⟨b, i, none⟩ = some v) : False := by
  obtain ⟨es, clock, hh, _⟩ := h
  simp [World.cell?, hh] at hc
theorem Kept.cell {S : Nat → Prop} {w w' : World} (h : Kept S w w') {p : Addr} (hp : p.block < w.heap.size) (hn : ¬ S p.block) : w'.cell? p = w.cell? p := by
  unfold World.cell?
  rw [h.block _ hp hn]
theorem run_app_nothing {P : Program} {w : World} {t e : TypeId} {size bytes : Nat} (E : El P t e size bytes) (ty : TypeId) (A A' : Option Addr) (n c c' : Nat) (hc : n ≤ c) :
    (Builtin.append_ #[t, t] ty #[.slice A n c, .slice A' 0 c']).run P w = .ok (.slice A n c) w := by
  obtain ⟨i, z, hi, hz⟩ := E.info
  cases A <;> cases A' <;> simp [Builtin.append_, run_underlying E.ht, sizeOf, typeInfo, hi, Builtin.lenOf, Builtin.firstCells, storeCells, loadCells, loadCellsFrom, hc]
theorem wpList_app_nothing {P : Program} {ops : Array Oper} {rest : List Oper} {o : Oper} {a : Act} {Q : Exit → Act → World → Prop} {w : World} {t e : TypeId} {size bytes : Nat} (E : El P t e size bytes)
    (hgd : o.guard = none) (s x : Operand) (ho : o.op = .call { callee := .builtin .append, args := #[s, x], argTypes := #[t, t] })
    {A A' : Option Addr} {n c c' : Nat} (hs : a.eval s = .slice A n c) (hx : a.eval x = .slice A' 0 c') (hc : n ≤ c)
    (h : wpList P ops Q rest (a.put o.dst (.slice A n c)) w) :
    wpList P ops Q (o :: rest) a w := by
  refine wpList_plain hgd fun K hK => ?_
  unfold Oper.wp execOp
  simp only [ho, resolve, invoke, builtin, Sem.run_bind, Sem.run_pure, Result.andThen_ok, List.map_toArray, List.map_cons, List.map_nil, hs, hx, run_app_nothing E o.type A A' n c c' hc]
  exact hK _ _ h

/-- A slice of the whole front of a block of ours, that may be wider than the slice says. -/
def OwnW (w : World) (e : TypeId) (size : Nat) (v : Value) (n : Nat) (xs : List Value) : Prop :=
  xs.length = n * size ∧ ((v = .slice none 0 0 ∧ n = 0) ∨
    ∃ g cap cur, v = .slice (some ⟨g, 0, none⟩) n cap ∧ Blk w g e cur ∧ n ≤ cap ∧ cap ≤ 9223372036854775807 ∧ cap * size ≤ cur.size ∧ cur.toList.take (n * size) = xs)
theorem OwnW.of_own {w : World} {base size n : Nat} {e : TypeId} {v : Value} {xs : List Value} (h : w.ownsRow base e size v n xs) : OwnW w e size v n xs := by
  refine ⟨h.1, ?_⟩
  rcases h.2 with h1 | ⟨g, cap, cur, hv, _, hk, h1, h2, h3, h4⟩
  · exact .inl h1
  · exact .inr ⟨g, cap, cur, hv, hk, h1, by unfold maxLen at h2; exact h2, by rw [h3]; exact Nat.le_refl _, h4⟩
theorem OwnW.nil (w : World) (e : TypeId) (size : Nat) : OwnW w e size (.slice none 0 0) 0 [] := ⟨by simp, .inl ⟨rfl, rfl⟩⟩
theorem OwnW.kept {S : Nat → Prop} {w w' : World} {e : TypeId} {size n : Nat} {v : Value} {xs : List Value} (h : OwnW w e size v n xs) (k : Kept S w w') (hn : ∀ i, v.ownBlock = some i → ¬ S i) : OwnW w' e size v n xs := by
  refine ⟨h.1, ?_⟩
  rcases h.2 with h1 | ⟨g, cap, cur, hv, hk, r⟩
  · exact .inl h1
  · exact .inr ⟨g, cap, cur, hv, hk.kept k (hn g (by rw [hv]; rfl)), r⟩
theorem OwnW.later {w w' : World} {e : TypeId} {size n : Nat} {v : Value} {xs : List Value} (h : OwnW w e size v n xs) (hb : Below w.heap.size w w') : OwnW w' e size v n xs :=
  h.kept (Kept.of_new hb (fun _ => False)) (fun _ _ h => h)
theorem OwnW.lt {w : World} {e : TypeId} {size n i : Nat} {v : Value} {xs : List Value} (h : OwnW w e size v n xs) (hi : v.ownBlock = some i) : i < w.heap.size := by
  rcases h.2 with ⟨rfl, _⟩ | ⟨g, cap, cur, rfl, hk, _⟩
  · simp [Value.ownBlock] at hi
  · have : g = i := by simpa [Value.ownBlock] using hi
    subst this
    exact hk.lt
theorem OwnW.ne_blk {w : World} {e t : TypeId} {size n g : Nat} {v : Value} {xs : List Value} {cs : Array Value} (h : OwnW w e size v n xs) (hg : Blk w g t cs) (hne : e ≠ t) : v.ownBlock ≠ some g := by
  rcases h.2 with ⟨rfl, _⟩ | ⟨g', cap, cur, rfl, hh, _⟩
  · simp [Value.ownBlock]
  · intro he
    have : g' = g := by simpa [Value.ownBlock] using he
    subst this
    exact blk_ne hh hg hne rfl
theorem OwnW.ne_map {w : World} {e : TypeId} {size n b : Nat} {v : Value} {xs : List Value} {κ : Type} [DecidableEq κ] {enc : κ → Value} {L : List (κ × Value)} (h : OwnW w e size v n xs) (hm : MapL enc w b L) : v.ownBlock ≠ some b := by
  rcases h.2 with ⟨rfl, _⟩ | ⟨g', cap, cur, rfl, hh, _⟩
  · simp [Value.ownBlock]
  · intro he
    have : g' = b := by simpa [Value.ownBlock] using he
    subst this
    exact hm.ne_blk hh rfl
theorem OwnW.shape {w : World} {e : TypeId} {size n : Nat} {v : Value} {xs : List Value} (h : OwnW w e size v n xs) : ∃ A c, v = .slice A n c ∧ n ≤ c ∧ c ≤ 9223372036854775807 ∧ Reads w w.heap.size size A n xs ∧ (∀ ad, A = some ad → v.ownBlock = some ad.block ∧ ad = ⟨ad.block, 0, none⟩) := by
  rcases h.2 with ⟨rfl, rfl⟩ | ⟨g, cap, cur, rfl, hk, h1, h2, h3, h4⟩
  · refine ⟨none, 0, rfl, Nat.le_refl _, by omega, ⟨h.1, fun h0 => absurd h0 (by omega)⟩, fun ad h => by cases h⟩
  · refine ⟨_, cap, rfl, h1, h2, ⟨h.1, fun _ => ⟨_, rfl, hk.lt, fun j u hu => ?_⟩⟩, fun ad h => ?_⟩
    · rw [add_none, Nat.zero_add, hk.cell]
      rw [← h4, List.getElem?_take] at hu
      split at hu
      · simpa using hu
      · cases hu
    · injection h with h; subst h; exact ⟨rfl, rfl⟩

/-- append, onto such a row. -/
theorem run_appW {P : Program} {w : World} {t e : TypeId} {size bytes : Nat} (E : El P t e size bytes) (ty : TypeId) {v : Value} {n : Nat} {xs : List Value} (hown : OwnW w e size v n xs)
    {B : Nat} {A : Option Addr} {m : Nat} (c : Nat) {news : List Value} (hr : Reads w B size A m news) (h1 : ∀ u ∈ news, u.oneCell' = true)
    (h63 : n + m ≤ maxLen) (hbytes : (n + m) * bytes ≤ 140737488355328) :
    ∃ v' w', (Builtin.append_ #[t, t] ty #[v, .slice A m c]).run P w = .ok v' w' ∧ OwnW w' e size v' (n + m) (xs ++ news) ∧ Kept (fun i => v.ownBlock = some i) w w' ∧
      (v'.ownBlock = v.ownBlock ∨ ∃ i, v'.ownBlock = some i ∧ w.heap.size ≤ i) := by
  rcases hown.2 with ⟨rfl, rfl⟩ | ⟨g, cap, cur, rfl, hk, hnc, hcm, hcs, htake⟩
  · have hx : xs = [] := List.eq_nil_of_length_eq_zero (by simpa using hown.1)
    subst hx
    obtain ⟨v', w', hrun, h2, h3, h4⟩ := run_app E ty (World.ownsRow_nil w w.heap.size e size) c hr h1 h63 hbytes (Nat.le_refl _)
    refine ⟨v', w', hrun, OwnW.of_own h2, (Kept.of_grown h3).mono (fun i _ hi => by simp [Value.ownBlock] at hi), ?_⟩
    rcases h4 with h4 | h4
    · exact .inl h4
    · exact .inr ⟨_, h4, Nat.le_refl _⟩
  · obtain ⟨i, z, hi, hz, hsize, hby, hzs⟩ := E.info
    rcases Nat.eq_zero_or_pos m with h0 | h0
    · subst h0
      have hn : news = [] := List.eq_nil_of_length_eq_zero (by simpa using hr.1)
      subst hn
      refine ⟨_, w, run_app_nothing E ty (some ⟨g, 0, none⟩) A n cap c hnc, ?_, Kept.refl _ _, .inl rfl⟩
      rw [Nat.add_zero, List.append_nil]
      exact hown
    · obtain ⟨ad, rfl, hb, hcells⟩ := hr.2 h0
      by_cases hroom : n + m ≤ cap
      · have hl : news.length = m * i.size := by rw [hsize]; exact hr.1
        have hle : (n + m) * size ≤ cap * size := Nat.mul_le_mul_right _ hroom
        have hfit : n * i.size + news.length ≤ cur.size := by
          rw [hl, hsize, ← Nat.add_mul]
          exact Nat.le_trans hle hcs
        have hrun := run_append_room (P := P) w t ty e i E.ht hi g n cap cur hk ad m c news hl hcells h1 hroom hfit
        refine ⟨_, _, hrun, ⟨by rw [List.length_append, hown.1, hr.1, Nat.add_mul], .inr ⟨g, cap, _, rfl, hk.setRow _, hroom, hcm, ?_, ?_⟩⟩, Kept.of_grown (only_setRow w g _) |>.mono (fun j _ hj => by simpa [Value.ownBlock] using hj), .inl rfl⟩
        · simp only [List.size_toArray, List.length_append, List.length_take, List.length_drop]
          have : n * i.size ≤ cur.size := by omega
          rw [Array.length_toList]
          omega
        · have hlen : (xs ++ news).length = (n + m) * size := by rw [List.length_append, hown.1, hr.1, Nat.add_mul]
          simp only [hsize, htake]
          show List.take _ (xs ++ news ++ _) = xs ++ news
          rw [List.take_append_of_le_length (by omega), List.take_of_length_le (by omega)]
      · have holds : ∀ j u, xs[j]? = some u → w.cell? ((⟨g, 0, none⟩ : Addr).add j) = some u := by
          intro j u hu
          rw [add_none, Nat.zero_add, hk.cell]
          rw [← htake, List.getElem?_take] at hu
          split at hu
          · simpa using hu
          · cases hu
        obtain ⟨v', w', hrun, h2, h3⟩ := run_append_arg_grows (P := P) w t ty e i z size bytes E.ht hi hz hsize hby hzs E.pos ⟨g, 0, none⟩ n cap xs hown.1 holds ad m c news hr.1 hcells (by omega) h63 hbytes
        refine ⟨v', w', hrun, OwnW.of_own h2, (Kept.of_grown h3).mono (fun j _ hj => by cases hj), ?_⟩
        rcases hv : v'.ownBlock with _ | j
        · rcases h2.2 with ⟨_, h5⟩ | ⟨g', cap', cur', rfl, _⟩
          · omega
          · simp [Value.ownBlock] at hv
        · exact .inr ⟨j, rfl, (own_ge h2 hv).1⟩
theorem wpList_appW {P : Program} {ops : Array Oper} {rest : List Oper} {o : Oper} {a : Act} {Q : Exit → Act → World → Prop} {w : World} {t e : TypeId} {size bytes : Nat} (E : El P t e size bytes)
    (hgd : o.guard = none) (s x : Operand) (ho : o.op = .call { callee := .builtin .append, args := #[s, x], argTypes := #[t, t] })
    {v : Value} {n : Nat} {xs : List Value} (hown : OwnW w e size v n xs) (hs : a.eval s = v)
    {B : Nat} {A : Option Addr} {m c : Nat} {news : List Value} (hr : Reads w B size A m news) (hx : a.eval x = .slice A m c) (h1 : ∀ u ∈ news, u.oneCell' = true)
    (h63 : n + m ≤ maxLen) (hbytes : (n + m) * bytes ≤ 140737488355328)
    (h : ∀ v' w', OwnW w' e size v' (n + m) (xs ++ news) → Kept (fun i => v.ownBlock = some i) w w' → (v'.ownBlock = v.ownBlock ∨ ∃ i, v'.ownBlock = some i ∧ w.heap.size ≤ i) → wpList P ops Q rest (a.put o.dst v') w') :
    wpList P ops Q (o :: rest) a w := by
  obtain ⟨v', w', hrun, h2, h3, h4⟩ := run_appW E o.type hown c hr h1 h63 hbytes
  refine wpList_plain hgd fun K hK => ?_
  unfold Oper.wp execOp
  simp only [ho, resolve, invoke, builtin, Sem.run_bind, Sem.run_pure, Result.andThen_ok, List.map_toArray, List.map_cons, List.map_nil, hs, hx, hrun]
  exact hK _ _ (h v' w' h2 h3 h4)

theorem OwnW.ne_own {w : World} {e e' : TypeId} {size size' n n' i : Nat} {v v' : Value} {xs xs' : List Value} (h : OwnW w e size v n xs) (h' : OwnW w e' size' v' n' xs') (hne : e ≠ e') (hi : v.ownBlock = some i) : v'.ownBlock ≠ some i := by
  rcases h.2 with ⟨rfl, _⟩ | ⟨g, cap, cur, rfl, hh, _⟩
  · simp [Value.ownBlock] at hi
  · have : g = i := by simpa [Value.ownBlock] using hi
    subst this
    exact h'.ne_blk hh (fun e => hne e.symm)
end Go.Proofs.Ytpncbggjngamgaa
