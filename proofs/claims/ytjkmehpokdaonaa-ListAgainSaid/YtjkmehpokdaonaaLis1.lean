/-
  spread.List as a list of states: what stands in memory, what leaves it alone; append onto a row that may be wider than its slice says.
-/
import Derived.Test.YtjkmehpokdaonaaSpr5
import Derived.ArgAppend
namespace Go.Proofs.Ytjkmehpokdaonaa
set_option linter.unusedVariables false
open Go.RowKit

/-- A slice of the whole front of a block of ours, that may be wider than the slice says. -/
def OwnW (w : World) (e : TypeId) (size : Nat) (v : Value) (n : Nat) (xs : List Value) : Prop :=
  xs.length = n * size ∧ ((v = .slice none 0 0 ∧ n = 0) ∨
    ∃ g cap cur, v = .slice (some ⟨g, 0, none⟩) n cap ∧ Blk w g e cur ∧ n ≤ cap ∧ cap ≤ 9223372036854775807 ∧ cap * size ≤ cur.size ∧ cur.toList.take (n * size) = xs)
theorem OwnW.of_own {w : World} {base size n : Nat} {e : TypeId} {v : Value} {xs : List Value} (h : w.ownsRow base e size v n xs) : OwnW w e size v n xs := by
  refine ⟨h.1, ?_⟩
  rcases h.2 with h1 | ⟨g, cap, cur, hv, _, hk, h1, h2, h3, h4⟩
  · exact .inl h1
  · exact .inr ⟨g, cap, cur, hv, hk, h1, by unfold maxLen at h2; exact h2, by rw [h3]; exact Nat.le_refl _, h4⟩
theorem OwnW.nil (w : World) (e : TypeId) (size : Nat) : OwnW w e size (.slice none 0 0) 0 [] := ⟨by simp, .inl ⟨rfl, rfl⟩⟩
theorem OwnW.kept {S : Nat → Prop} {w w' : World} {e : TypeId} {size n : Nat} {v : Value} {xs : List Value} (h : OwnW w e size v n xs) (k : Kept S w w') (hn : ∀ i, v.ownBlock = some i → ¬ S i) : OwnW w' e size v n xs := by
  refine ⟨h.1, ?_⟩
  rcases h.2 with h1 | ⟨g, cap, cur, hv, hk, r⟩
  · exact .inl h1
  · exact .inr ⟨g, cap, cur, hv, hk.kept k (hn g (by rw [hv]; rfl)), r⟩
theorem OwnW.later {w w' : World} {e : TypeId} {size n : Nat} {v : Value} {xs : List Value} (h : OwnW w e size v n xs) (hb : Below w.heap.size w w') : OwnW w' e size v n xs :=
  h.kept (Kept.of_new hb (fun _ => False)) (fun _ _ h => h)
theorem OwnW.lt {w : World} {e : TypeId} {size n i : Nat} {v : Value} {xs : List Value} (h : OwnW w e size v n xs) (hi : v.ownBlock = some i) : i < w.heap.size := by
  rcases h.2 with ⟨rfl, _⟩ | ⟨g, cap, cur, rfl, hk, _⟩
  · simp [Value.ownBlock] at hi
  · have : g = i := by simpa [Value.ownBlock] using hi
    subst this
    exact hk.lt
theorem OwnW.ne_blk {w : World} {e t : TypeId} {size n g : Nat} {v : Value} {xs : List Value} {cs : Array Value} (h : OwnW w e size v n xs) (hg : Blk w g t cs) (hne : e ≠ t) : v.ownBlock ≠ some g := by
  rcases h.2 with ⟨rfl, _⟩ | ⟨g', cap, cur, rfl, hh, _⟩
  · simp [Value.ownBlock]
  · intro he
    have : g' = g := by simpa [Value.ownBlock] using he
    subst this
    exact blk_ne hh hg hne rfl
theorem OwnW.ne_map {w : World} {e : TypeId} {size n b : Nat} {v : Value} {xs : List Value} {κ : Type} [DecidableEq κ] {enc : κ → Value} {L : List (κ × Value)} (h : OwnW w e size v n xs) (hm : MapL enc w b L) : v.ownBlock ≠ some b := by
  rcases h.2 with ⟨rfl, _⟩ | ⟨g', cap, cur, rfl, hh, _⟩
  · simp [Value.ownBlock]
  · intro he
    have : g' = b := by simpa [Value.ownBlock] using he
    subst this
    exact hm.ne_blk hh rfl
theorem OwnW.shape {w : World} {e : TypeId} {size n : Nat} {v : Value} {xs : List Value} (h : OwnW w e size v n xs) : ∃ A c, v = .slice A n c ∧ n ≤ c ∧ c ≤ 9223372036854775807 ∧ Reads w w.heap.size size A n xs ∧ (∀ ad, A = some ad → v.ownBlock = some ad.block ∧ ad = ⟨ad.block, 0, none⟩) := by
  rcases h.2 with ⟨rfl, rfl⟩ | ⟨g, cap, cur, rfl, hk, h1, h2, h3, h4⟩
  · refine ⟨none, 0, rfl, Nat.le_refl _, by omega, ⟨h.1, fun h0 => absurd h0 (by omega)⟩, fun ad h => by cases h⟩
  · refine ⟨_, cap, rfl, h1, h2, ⟨h.1, fun _ => ⟨_, rfl, hk.lt, fun j u hu => ?_⟩⟩, fun ad h => ?_⟩
    · rw [add_none, Nat.zero_add, hk.cell]
      rw [← h4, List.getElem?_take] at hu
      split at hu
      · simpa using hu
      · cases hu
    · injection h with h; subst h; exact ⟨rfl, rfl⟩

/-- append, onto such a row. -/
theorem run_appW {P : Program} {w : World} {t e : TypeId} {size bytes : Nat} (E : El P t e size bytes) (ty : TypeId) {v : Value} {n : Nat} {xs : List Value} (hown : OwnW w e size v n xs)
    {B : Nat} {A : Option Addr} {m : Nat} (c : Nat) {news : List Value} (hr : Reads w B size A m news) (h1 : ∀ u ∈ news, u.oneCell' = true)
    (h63 : n + m ≤ maxLen) (hbytes : (n + m) * bytes ≤ 140737488355328) :
    ∃ v' w', (Builtin.append_ #[t, t] ty #[v, .slice A m c]).run P w = .ok v' w' ∧ OwnW w' e size v' (n + m) (xs ++ news) ∧ Kept (fun i => v.ownBlock = some i) w w' ∧
      (v'.ownBlock = v.ownBlock ∨ ∃ i, v'.ownBlock = some i ∧ w.heap.size ≤ i) := by
  rcases hown.2 with ⟨rfl, rfl⟩ | ⟨g, cap, cur, rfl, hk, hnc, hcm, hcs, htake⟩
  · have hx : xs = [] := List.eq_nil_of_length_eq_zero (by simpa using hown.1)
    subst hx
    obtain ⟨v', w', hrun, h2, h3, h4⟩ := run_app E ty (World.ownsRow_nil w w.heap.size e size) c hr h1 h63 hbytes (Nat.le_refl _)
    refine ⟨v', w', hrun, OwnW.of_own h2, (Kept.of_grown h3).mono (fun i _ hi => by simp [Value.ownBlock] at hi), ?_⟩
    rcases h4 with h4 | h4
    · exact .inl h4
    · exact .inr ⟨_, h4, Nat.le_refl _⟩
  · obtain ⟨i, z, hi, hz, hsize, hby, hzs⟩ := E.info
    rcases Nat.eq_zero_or_pos m with h0 | h0
    · subst h0
      have hn : news = [] := List.eq_nil_of_length_eq_zero (by simpa using hr.1)
      subst hn
      refine ⟨_, w, run_app_nothing E ty (some ⟨g, 0, none⟩) A n cap c hnc, ?_, Kept.refl _ _, .inl rfl⟩
      rw [Nat.add_zero, List.append_nil]
      exact hown
    · obtain ⟨ad, rfl, hb, hcells⟩ := hr.2 h0
      by_cases hroom : n + m ≤ cap
      · have hl : news.length = m * i.size := by rw [hsize]; exact hr.1
        have hle : (n + m) * size ≤ cap * size := Nat.mul_le_mul_right _ hroom
        have hfit : n * i.size + news.length ≤ cur.size := by
          rw [hl, hsize, ← Nat.add_mul]
          exact Nat.le_trans hle hcs
        have hrun := run_append_room (P := P) w t ty e i E.ht hi g n cap cur hk ad m c news hl hcells h1 hroom hfit
        refine ⟨_, _, hrun, ⟨by rw [List.length_append, hown.1, hr.1, Nat.add_mul], .inr ⟨g, cap, _, rfl, hk.setRow _, hroom, hcm, ?_, ?_⟩⟩, Kept.of_grown (only_setRow w g _) |>.mono (fun j _ hj => by simpa [Value.ownBlock] using hj), .inl rfl⟩
        · simp only [List.size_toArray, List.length_append, List.length_take, List.length_drop]
          have : n * i.size ≤ cur.size := by omega
          rw [Array.length_toList]
          omega
        · have hlen : (xs ++ news).length = (n + m) * size := by rw [List.length_append, hown.1, hr.1, Nat.add_mul]
          simp only [hsize, htake]
          show List.take _ (xs ++ news ++ _) = xs ++ news
          rw [List.take_append_of_le_length (by omega), List.take_of_length_le (by omega)]
      · have holds : ∀ j u, xs[j]? = some u → w.cell? ((⟨g, 0, none⟩ : Addr).add j) = some u := by
          intro j u hu
          rw [add_none, Nat.zero_add, hk.cell]
          rw [← htake, List.getElem?_take] at hu
          split at hu
          · simpa using hu
          · cases hu
        obtain ⟨v', w', hrun, h2, h3⟩ := run_append_arg_grows (P := P) w t ty e i z size bytes E.ht hi hz hsize hby hzs E.pos ⟨g, 0, none⟩ n cap xs hown.1 holds ad m c news hr.1 hcells (by omega) h63 hbytes
        refine ⟨v', w', hrun, OwnW.of_own h2, (Kept.of_grown h3).mono (fun j _ hj => by cases hj), ?_⟩
        rcases hv : v'.ownBlock with _ | j
        · rcases h2.2 with ⟨_, h5⟩ | ⟨g', cap', cur', rfl, _⟩
          · omega
          · simp [Value.ownBlock] at hv
        · exact .inr ⟨j, rfl, (own_ge h2 hv).1⟩
theorem wpList_appW {P : Program} {ops : Array Oper} {rest : List Oper} {o : Oper} {a : Act} {Q : Exit → Act → World → Prop} {w : World} {t e : TypeId} {size bytes : Nat} (E : El P t e size bytes)
    (hgd : o.guard = none) (s x : Operand) (ho : o.op = .call { callee := .builtin .append, args := #[s, x], argTypes := #[t, t] })
    {v : Value} {n : Nat} {xs : List Value} (hown : OwnW w e size v n xs) (hs : a.eval s = v)
    {B : Nat} {A : Option Addr} {m c : Nat} {news : List Value} (hr : Reads w B size A m news) (hx : a.eval x = .slice A m c) (h1 : ∀ u ∈ news, u.oneCell' = true)
    (h63 : n + m ≤ maxLen) (hbytes : (n + m) * bytes ≤ 140737488355328)
    (h : ∀ v' w', OwnW w' e size v' (n + m) (xs ++ news) → Kept (fun i => v.ownBlock = some i) w w' → (v'.ownBlock = v.ownBlock ∨ ∃ i, v'.ownBlock = some i ∧ w.heap.size ≤ i) → wpList P ops Q rest (a.put o.dst v') w') :
    wpList P ops Q (o :: rest) a w := by
  obtain ⟨v', w', hrun, h2, h3, h4⟩ := run_appW E o.type hown c hr h1 h63 hbytes
  refine wpList_plain hgd fun K hK => ?_
  unfold Oper.wp execOp
  simp only [ho, resolve, invoke, builtin, Sem.run_bind, Sem.run_pure, Result.andThen_ok, List.map_toArray, List.map_cons, List.map_nil, hs, hx, hrun]
  exact hK _ _ (h v' w' h2 h3 h4)

/-- One state of a list: its head, where its body stands, and the body's bytes. -/
structure SE where
  h : Hd
  A : Option Addr
  n : Nat
  c : Nat
  B : List Int
@[reducible] def SE.v (s : SE) : Value := stV s.h s.A s.n s.c
/-- A state that can be read. -/
structure SE.rd (w : World) (s : SE) : Prop where
  head : s.h.ok
  body : Reads w w.heap.size 1 s.A s.n (u8s s.B)
  cap : s.n ≤ s.c ∧ s.c ≤ 9223372036854775807
  len : s.n ≤ 1099511627776
theorem SE.rd.kept {R : Nat → Prop} {w w' : World} {s : SE} (h : s.rd w) (k : Kept R w w') (hn : ∀ ad, s.A = some ad → ¬ R ad.block) : s.rd w' := ⟨h.head, h.body.keptUp k (fun _ ad e => hn ad e), h.cap, h.len⟩
theorem SE.rd.later {w w' : World} {s : SE} (h : s.rd w) (hb : Below w.heap.size w w') : s.rd w' := h.kept (Kept.of_new hb (fun _ => False)) (fun _ _ h => h)
@[reducible] def SE.b (s : SE) : Value := .slice s.A s.n s.c
/-- A state whose body is a row of its own. -/
structure SE.ok (w : World) (s : SE) : Prop where
  head : s.h.ok
  body : OwnW w 5 1 s.b s.n (u8s s.B)
  len : s.n ≤ 1099511627776
theorem SE.ok.kept {R : Nat → Prop} {w w' : World} {s : SE} (h : s.ok w) (k : Kept R w w') (hn : ∀ i, s.b.ownBlock = some i → ¬ R i) : s.ok w' := ⟨h.head, h.body.kept k hn, h.len⟩
theorem SE.ok.later {w w' : World} {s : SE} (h : s.ok w) (hb : Below w.heap.size w w') : s.ok w' := ⟨h.head, h.body.later hb, h.len⟩
theorem SE.ok.rd {w : World} {s : SE} (h : s.ok w) : s.rd w := by
  obtain ⟨A, c, e, h1, h2, h3, _⟩ := h.body.shape
  injection e with e1 _ e3
  exact ⟨h.head, by rw [e1]; exact h3, by rw [e3]; exact ⟨h1, h2⟩, h.len⟩
@[reducible] def SE.key (s : SE) : Int × Int × Int := s.h.key
def kc (k : Int × Int × Int) : List Value := [.int .u8 k.1, .int .u32 k.2.1, .int .u32 k.2.2]
def keysL (L : List SE) : List Value := L.flatMap fun s => kc s.key
theorem keysL_len (L : List SE) : (keysL L).length = L.length * 3 := by
  unfold keysL
  induction L with
  | nil => rfl
  | cons a L ih => rw [List.flatMap_cons, List.length_append, ih, List.length_cons]; simp [kc]; omega
theorem keysL_at {L : List SE} {i j : Nat} {s : SE} {u : Value} (hi : L[i]? = some s) (hu : (kc s.key)[j]? = some u) (hj : j < 3) : (keysL L)[i * 3 + j]? = some u := by
  unfold keysL
  induction L generalizing i with
  | nil => simp at hi
  | cons a L ih =>
    rw [List.flatMap_cons]
    cases i with
    | zero =>
      simp at hi; subst hi
      rw [List.getElem?_append_left (by simp [kc]; omega)]
      simpa using hu
    | succ i =>
      simp at hi
      rw [List.getElem?_append_right (by simp [kc]; omega)]
      rw [show (i + 1) * 3 + j - (kc a.key).length = i * 3 + j by simp [kc]; omega]
      exact ih hi
theorem keysL_app (L M : List SE) : keysL (L ++ M) = keysL L ++ keysL M := by unfold keysL; rw [List.flatMap_append]
theorem keysL_one : ∀ (L : List SE), ∀ u ∈ keysL L, u.oneCell' = true := by
  intro L u hu
  unfold keysL at hu
  obtain ⟨s, _, hs⟩ := List.mem_flatMap.1 hu
  simp only [kc, List.mem_cons, List.not_mem_nil, or_false] at hs
  rcases hs with rfl | rfl | rfl <;> rfl

/-- spread.List: block g, its map in block bm, of the states L; all of its blocks in F. -/
structure LF (w : World) (F : Nat → Prop) (g bm : Nat) (r t : Int) (L : List SE) : Prop where
  ex : ∃ kv, Blk w g 55 #[.int .u32 r, .int .u32 t, kv, .map (some bm)] ∧ OwnW w 46 3 kv L.length (keysL L) ∧ ∀ i, kv.ownBlock = some i → F i
  map : MapL keyV w bm (L.map fun s => (s.key, s.v))
  fg : F g
  fb : F bm
  ok : ∀ s ∈ L, s.ok w
  bodies : ∀ s ∈ L, ∀ i, s.b.ownBlock = some i → F i
  nodup : (L.map SE.key).Nodup
  few : L.length ≤ 1000000
  lim : ∀ i, F i → i < w.heap.size
/-- The new blocks of a list. -/
def Grew (w : World) (F F' : Nat → Prop) : Prop := (∀ i, F i → F' i) ∧ ∀ i, F' i → F i ∨ w.heap.size ≤ i
theorem Grew.refl (w : World) (F : Nat → Prop) : Grew w F F := ⟨fun _ h => h, fun _ h => .inl h⟩
theorem Grew.trans {w w' : World} {F F' F'' : Nat → Prop} (h : Grew w F F') (k : Grew w' F' F'') (hs : w.heap.size ≤ w'.heap.size) : Grew w F F'' :=
  ⟨fun i hi => k.1 i (h.1 i hi), fun i hi => (k.2 i hi).elim (fun e => h.2 i e) (fun e => .inr (Nat.le_trans hs e))⟩
theorem LF.later {w w' : World} {F : Nat → Prop} {g bm : Nat} {r t : Int} {L : List SE} (l : LF w F g bm r t L) (hb : Below w.heap.size w w') : LF w' F g bm r t L := by
  obtain ⟨kv, h1, h2, h3⟩ := l.ex
  exact ⟨⟨kv, h1.later hb, h2.later hb, h3⟩, l.map.later hb, l.fg, l.fb, fun s hs => (l.ok s hs).later hb, l.bodies, l.nodup, l.few, fun i hi => Nat.lt_of_lt_of_le (l.lim i hi) hb.size⟩
theorem LF.kept {w w' : World} {R F : Nat → Prop} {g bm : Nat} {r t : Int} {L : List SE} (l : LF w F g bm r t L) (k : Kept R w w') (hn : ∀ i, F i → ¬ R i) : LF w' F g bm r t L := by
  obtain ⟨kv, h1, h2, h3⟩ := l.ex
  exact ⟨⟨kv, h1.kept k (hn g l.fg), h2.kept k (fun i hi => hn i (h3 i hi)), h3⟩, l.map.kept k (hn bm l.fb), l.fg, l.fb, fun s hs => (l.ok s hs).kept k (fun i hi => hn i (l.bodies s hs i hi)), l.bodies, l.nodup, l.few, fun i hi => Nat.lt_of_lt_of_le (l.lim i hi) k.size⟩
theorem LF.lt {w : World} {F : Nat → Prop} {g bm : Nat} {r t : Int} {L : List SE} (l : LF w F g bm r t L) : g < w.heap.size := by
  obtain ⟨kv, h1, _⟩ := l.ex
  exact h1.lt
theorem LF.map_cell {w : World} {F : Nat → Prop} {g bm : Nat} {r t : Int} {L : List SE} (l : LF w F g bm r t L) : w.cell? ⟨g, 3, none⟩ = some (.map (some bm)) := by
  obtain ⟨kv, h1, _⟩ := l.ex
  exact h1.cell 3
/-! Looking for a key. -/
theorem find_no {L : List SE} {k : Int × Int × Int} (h : ∀ s ∈ L, s.key ≠ k) : findL (L.map fun s => (s.key, s.v)) k 0 = none := by
  rw [findL_none]
  intro p hp
  obtain ⟨s, hs, rfl⟩ := List.mem_map.1 hp
  exact h s hs
theorem find_yes {L : List SE} {k : Int × Int × Int} (h : ∃ s ∈ L, s.key = k) : ∃ (i : Nat) (s : SE), L[i]? = some s ∧ s.key = k ∧ findL (L.map fun s => (s.key, s.v)) k 0 = some (i, s.v) := by
  cases hf : findL (L.map fun s => (s.key, s.v)) k 0 with
  | none =>
    rw [findL_none] at hf
    obtain ⟨s, hs, e⟩ := h
    exact absurd e (hf (s.key, s.v) (List.mem_map.2 ⟨s, hs, rfl⟩))
  | some p =>
    obtain ⟨j, v⟩ := p
    obtain ⟨i, e1, e2⟩ := findL_some 0 hf
    rw [List.getElem?_map] at e2
    obtain ⟨s, e3, e4⟩ := Option.map_eq_some_iff.1 e2
    injection e4 with e5 e6
    exact ⟨i, s, e3, e5, by rw [e1, Nat.zero_add, e6]⟩
theorem nodup_at {L : List SE} (h : (L.map SE.key).Nodup) {i j : Nat} {s s' : SE} (hi : L[i]? = some s) (hj : L[j]? = some s') (e : s.key = s'.key) : i = j := by
  have hi' : i < L.length := (List.getElem?_eq_some_iff.1 hi).1
  have h1 : (L.map SE.key)[i]? = some s.key := by rw [List.getElem?_map, hi]; rfl
  have h2 : (L.map SE.key)[j]? = some s.key := by rw [List.getElem?_map, hj, e]; rfl
  exact (List.getElem?_inj (by rw [List.length_map]; exact hi') h).1 (h1.trans h2.symm)
end Go.Proofs.Ytjkmehpokdaonaa
