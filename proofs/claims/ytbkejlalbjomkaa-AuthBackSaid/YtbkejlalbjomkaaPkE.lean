/-
  A packet's part, read, whichever its type is.
  What Decode throws is caught.
  Decode: what it tells, and where it is refused by its length.
  Decode.
-/
import Derived.Test.YtbkejlalbjomkaaPk12
import Derived.Test.YtbkejlalbjomkaaPk20
import Derived.Laws.CopyOwn
namespace Go.Proofs.Ytbkejlalbjomkaa
set_option linter.unusedVariables false
open Go.RowKit

/-- Is there a part of a packet of the type t behind the head? -/
structure partOk (ys : List Int) (t : Int) : Prop where
  h1 : t = 1 → helloOk ys 24
  h2 : t = 2 → 24 + 8 ≤ ys.length ∧ (ys.length - (24 + 8)) % 20 = 0
  h3 : t = 3 → reqOk ys 24
  h4 : t = 4 → 24 + 4 ≤ ys.length ∧ ∃ L, upS (be ((ys.drop 24).take 4)).toNat (ys.drop (24 + 4)) = some L
  h5 : t = 5 → (ys.length - 24) % 20 = 0
/-- What the part says. -/
def PIs (ys : List Int) (t r a : Int) (p : PA) : Prop :=
  (t = 1 ∧ p = { p0 t r a with mask := be ((ys.drop 24).take 4), ivl := be ((ys.drop (24 + 4)).take 2), hopts := be ((ys.drop (24 + 6)).take 1), pri := be ((ys.drop (24 + 7)).take 1), dead := be ((ys.drop (24 + 8)).take 4), dr := be ((ys.drop (24 + 12)).take 4), bdr := be ((ys.drop (24 + 16)).take 4), NA := p.NA, nn := (ys.length - (24 + 20)) / 4, nc := p.nc, nb := wordsAt ys (24 + 20) ((ys.length - (24 + 20)) / 4) }) ∨
  (t = 2 ∧ p = { p0 t r a with mtu := be ((ys.drop 24).take 2), dopts := be ((ys.drop (24 + 2)).take 1), flags := be ((ys.drop (24 + 3)).take 1), seq := be ((ys.drop (24 + 4)).take 4), DA := p.DA, dn := (ys.length - (24 + 8)) / 20, dc := p.dc, dh := hdsAt ys (24 + 8) ((ys.length - (24 + 8)) / 20) }) ∨
  (t = 3 ∧ p = { p0 t r a with KA := p.KA, kn := (ys.length - 24) / 12, kc := p.kc, ks := kysAt ys 24 ((ys.length - 24) / 12) }) ∨
  (t = 4 ∧ upS (be ((ys.drop 24).take 4)).toNat (ys.drop (24 + 4)) = some (p.ss.map SE.hb) ∧ p.ss.length = p.sn ∧ p = { p0 t r a with SA := p.SA, sn := p.sn, sc := p.sc, ss := p.ss }) ∨
  (t = 5 ∧ p = { p0 t r a with HA := p.HA, hn := (ys.length - 24) / 20, hc := p.hc, hs := hdsAt ys 24 ((ys.length - 24) / 20) })
/-- What a part leaves. -/
def PrP (w0 w w' : World) (g gp : Nat) (q : Rq) (ys : List Int) (t r a : Int) (e : Ending) : Prop :=
  (∃ (p : PA) (s : Rd), e = .returned (.tuple #[]) ∧ PkF w0 w' g gp q s p.C ∧ Kept (fun i => i = g ∨ i = gp) w w' ∧ PkY w w' p ∧ (s.e = 0 → partOk ys t ∧ PIs ys t r a p) ∧ (s.e ≠ 0 → ¬ partOk ys t)) ∨
  (¬ partOk ys t ∧ (∃ k, k ≠ 0 ∧ e = thrown k) ∧ FlP w0 w w' g gp)
def qN (t : Int) : FuncId := if t = 1 then 53 else if t = 2 then 54 else if t = 3 then 55 else if t = 4 then 56 else 57
theorem stsY_nil (w w' : World) : StsY w w' none 0 0 [] := ⟨own_nil _ _ _ _, fun s hs => by simp at hs⟩
theorem PtY.pky {w0 w w' : World} {g gp : Nat} {q : Rq} {s : Rd} {p : PA} (h : PtY w0 w w' g gp q s p) (hs : StsY w w' p.SA p.sn p.sc p.ss) : PkY w w' p := ⟨h.n, h.d, h.ks, hs, h.h⟩
theorem partR_any (w0 w : World) (g gp : Nat) (q : Rq) (ys : List Int) (t r a : Int) (h1 : 1 ≤ t) (h5 : t ≤ 5) (h : PkF w0 w g gp q ⟨ys, 24, 0⟩ (p0 t r a).C) (hp : 24 ≤ ys.length) (hn : ys.length ≤ 1073741824) :
    Calls Try.prog (qN t) #[.agg #[.pointer (some ⟨g, 0, none⟩)], .pointer (some ⟨gp, 0, none⟩)] w fun e w' => PrP w0 w w' g gp q ys t r a e := by
  have hc : t = 1 ∨ t = 2 ∨ t = 3 ∨ t = 4 ∨ t = 5 := by omega
  rcases hc with rfl | rfl | rfl | rfl | rfl
  · rw [show qN 1 = 53 from rfl]
    refine (hello_any w0 w g gp q ys 24 1 r a h hp hn).mono ?_
    rintro e w' ⟨p, s, rfl, hy, hok, hs, z1, z2, z3, z4⟩
    refine .inl ⟨p, s, rfl, hy.f, hy.k, hy.pky (by rw [z1, z2, z3, z4]; exact stsY_nil _ _), ?_, ?_⟩
    · intro he
      obtain ⟨_, hpe⟩ := hs he
      exact ⟨⟨fun _ => hok.1 he, by omega, by omega, by omega, by omega⟩, .inl ⟨rfl, hpe⟩⟩
    · intro he hpo
      exact he (hok.2 (hpo.h1 rfl))
  · rw [show qN 2 = 54 from rfl]
    refine (desc_any w0 w g gp q ys 24 2 r a h hp hn).mono ?_
    rintro e w' (⟨hok, p, rfl, hy, hpe⟩ | ⟨hno, rfl, hf⟩)
    · refine .inl ⟨p, _, rfl, hy.f, hy.k, hy.pky (by rw [hpe]; exact stsY_nil _ _), fun _ => ⟨⟨by omega, fun _ => hok, by omega, by omega, by omega⟩, .inr (.inl ⟨rfl, hpe⟩)⟩, fun he => absurd rfl he⟩
    · exact .inr ⟨fun hpo => hno (hpo.h2 rfl), ⟨22, by decide, rfl⟩, hf⟩
  · rw [show qN 3 = 55 from rfl]
    refine (req_any w0 w g gp q ys 24 3 r a h hp hn).mono ?_
    rintro e w' (⟨hok, p, rfl, hy, hpe⟩ | ⟨hno, hth, hf⟩)
    · refine .inl ⟨p, _, rfl, hy.f, hy.k, hy.pky (by rw [hpe]; exact stsY_nil _ _), fun _ => ⟨⟨by omega, by omega, fun _ => hok, by omega, by omega⟩, .inr (.inr (.inl ⟨rfl, hpe⟩))⟩, fun he => absurd rfl he⟩
    · refine .inr ⟨fun hpo => hno (hpo.h3 rfl), ?_, hf⟩
      rcases hth with rfl | rfl
      · exact ⟨22, by decide, rfl⟩
      · exact ⟨24, by decide, rfl⟩
  · rw [show qN 4 = 56 from rfl]
    refine (up_any w0 w g gp q ys 24 4 r a h hp hn).mono ?_
    rintro e w' (⟨L, p, hok, rfl, hy, hst, hsl, hL, hpe⟩ | ⟨hno, rfl, hf⟩)
    · refine .inl ⟨p, _, rfl, hy.f, hy.k, hy.pky hst, fun _ => ⟨⟨by omega, by omega, by omega, fun _ => ⟨hok.1, L, hok.2⟩, by omega⟩, .inr (.inr (.inr (.inl ⟨rfl, by rw [hL]; exact hok.2, hsl, hpe⟩)))⟩, fun he => absurd rfl he⟩
    · exact .inr ⟨fun hpo => hno (hpo.h4 rfl), ⟨22, by decide, rfl⟩, hf⟩
  · rw [show qN 5 = 57 from rfl]
    refine (ack_any w0 w g gp q ys 24 5 r a h hp hn).mono ?_
    rintro e w' (⟨hok, p, rfl, hy, hpe⟩ | ⟨hno, rfl, hf⟩)
    · refine .inl ⟨p, _, rfl, hy.f, hy.k, hy.pky (by rw [hpe]; exact stsY_nil _ _), fun _ => ⟨⟨by omega, by omega, by omega, by omega, fun _ => hok⟩, .inr (.inr (.inr (.inr ⟨rfl, hpe⟩)))⟩, fun he => absurd rfl he⟩
    · exact .inr ⟨fun hpo => hno (hpo.h5 rfl), ⟨22, by decide, rfl⟩, hf⟩
end Go.Proofs.Ytbkejlalbjomkaa
namespace Go.Proofs.Ytbkejlalbjomkaa
set_option linter.unusedVariables false
open Go.RowKit

@[reducible] def zPk : Array Value := #[.int .u8 0, .int .u32 0, .int .u32 0, .int .u32 0, .int .u16 0, .int .u8 0, .int .u8 0, .int .u32 0, .int .u32 0, .int .u32 0, .slice none 0 0, .int .u16 0, .int .u8 0, .int .u8 0, .int .u32 0, .slice none 0 0, .slice none 0 0, .slice none 0 0, .slice none 0 0]
@[reducible] def zAu : Array Value := #[.int .u16 0, .int .u8 0, .int .u8 0, .int .u8 0, .int .u8 0, .int .u8 0, .int .u8 0, .int .u8 0, .int .u8 0]
theorem info_pk : (Try.prog.info? 33).map (·.size) = some 19 := by kernel_rfl
theorem info_au : (Try.prog.info? 44).map (·.size) = some 9 := by kernel_rfl
theorem one_pk : zPk.all (·.oneCell') = true := by simp [Value.oneCell']
theorem one_au : zAu.all (·.oneCell') = true := by simp [Value.oneCell']
/-- The three blocks that Decode answers with. -/
structure De3 (W : World) (gp ga ge : Nat) (C A : Array Value) (k : Int) : Prop where
  p : Blk W gp 33 C
  a : Blk W ga 44 A
  e : Blk W ge 40 #[.int .i64 k]
  pa : gp ≠ ga
  pe : gp ≠ ge
  ae : ga ≠ ge
set_option maxRecDepth 100000 in
set_option maxHeartbeats 2000000 in
theorem dec_idle (gp ga ge : Nat) (w : World) :
    CallsD Try.prog 49 #[.pointer (some ⟨gp, 0, none⟩), .pointer (some ⟨ga, 0, none⟩), .pointer (some ⟨ge, 0, none⟩)] .returning w fun e u' w' => e = .returned (.tuple #[]) ∧ u' = .returning ∧ w' = w := by
  refine callsD_of_wpS Try.func49 rfl fun c₀ cs hu => ?_
  apply wpS_seq
  apply wpS_region
  simp [wpOpsS, go_sem, recoverD, hu, Try.ntmps49, Exit.thenS]
  refine wpS_of_wp ?_
  have h1 := nil_ne
  rw [show (#[Value.pointer (some ⟨gp, 0, none⟩), .pointer (some ⟨ga, 0, none⟩), .pointer (some ⟨ge, 0, none⟩)] ++ ((Array.replicate 17 undef).setIfInBounds 3 .nilIface).setIfInBounds 0 .nilIface) = #[.pointer (some ⟨gp, 0, none⟩), .pointer (some ⟨ga, 0, none⟩), .pointer (some ⟨ge, 0, none⟩), .nilIface, undef, undef, .nilIface, undef, undef, undef, undef, undef, undef, undef, undef, undef, undef, undef, undef, undef] from rfl]
  go_wp2
  cases c₀
  simp_all [bodyPostS, results, Try.results49]
set_option maxRecDepth 100000 in
set_option maxHeartbeats 2000000 in
theorem dec_caught (gp ga ge : Nat) (C A : Array Value) (x k : Int) (older : List PanicEntry) (w : World) (h : De3 w gp ga ge C A x) (hC : C.size = 19) (hA : A.size = 9) :
    CallsD Try.prog 49 #[.pointer (some ⟨gp, 0, none⟩), .pointer (some ⟨ga, 0, none⟩), .pointer (some ⟨ge, 0, none⟩)] (.panicking ({ v := .iface 40 (.int .i64 k), recovered := false } :: older)) w fun e u' w' =>
      e = .returned (.tuple #[]) ∧ u' = .panicking ({ v := .iface 40 (.int .i64 k), recovered := true } :: older) ∧ De3 w' gp ga ge zPk zAu k ∧ Kept (fun i => i = gp ∨ i = ga ∨ i = ge) w w' := by
  refine callsD_of_wpS Try.func49 rfl fun c₀ cs hu => ?_
  apply wpS_seq
  apply wpS_region
  simp [wpOpsS, go_sem, recoverD, hu, Try.ntmps49, Exit.thenS]
  refine wpS_of_wp ?_
  have h1 := errno_ne k
  have h2 := assert_errno k
  rw [show (#[Value.pointer (some ⟨gp, 0, none⟩), .pointer (some ⟨ga, 0, none⟩), .pointer (some ⟨ge, 0, none⟩)] ++ ((Array.replicate 17 undef).setIfInBounds 3 (.iface 40 (.int .i64 k))).setIfInBounds 0 (.iface 40 (.int .i64 k))) = #[.pointer (some ⟨gp, 0, none⟩), .pointer (some ⟨ga, 0, none⟩), .pointer (some ⟨ge, 0, none⟩), (.iface 40 (.int .i64 k)), undef, undef, (.iface 40 (.int .i64 k)), undef, undef, undef, undef, undef, undef, undef, undef, undef, undef, undef, undef, undef] from rfl]
  have HH := Lib.hid h
  have e1 := Lib.hid hC
  have e2 := Lib.hid hA
  have A1 := Lib.hid ((h.a.setRow_far (cs' := zPk) h.pa.symm))
  have E2 := Lib.hid ((h.e.setRow_far (cs' := zPk) h.pe.symm).setRow_far (cs' := zAu) h.ae.symm)
  have P1 := Lib.hid ((h.p.setRow zPk).setRow_far (cs' := zAu) h.pa)
  have A2 := Lib.hid (Blk.setRow A1.out zAu)
  have hz := E2.out.frozen 0
  have hc := E2.out.cell 0
  clear h hC hA
  go_wp2_with (first | (refine wpList_store_row rfl 33 _ _ rfl gp zPk rfl rfl 33 _ HH.out.p info_pk e1.out one_pk ?_) | (refine wpList_store_row rfl 44 _ _ rfl ga zAu rfl rfl 44 _ A1.out info_au e2.out one_au ?_))
  have hD : De3 (((w.setRow gp zPk).setRow ga zAu).setCell ⟨ge, 0, none⟩ (.int .i64 k)) gp ga ge zPk zAu k := ⟨P1.out.far (p := ⟨ge, 0, none⟩) HH.out.pe _, A2.out.far (p := ⟨ge, 0, none⟩) HH.out.ae _, E2.out.set_ 0 _, HH.out.pa, HH.out.pe, HH.out.ae⟩
  have hK : Kept (fun i => i = gp ∨ i = ga ∨ i = ge) w (((w.setRow gp zPk).setRow ga zAu).setCell ⟨ge, 0, none⟩ (.int .i64 k)) :=
    (((Kept.of_grown (only_setRow w gp zPk)).mono (T := fun i => i = gp ∨ i = ga ∨ i = ge) (fun i _ e => .inl (by simpa using e.symm))).trans ((Kept.of_grown (only_setRow _ ga zAu)).mono (T := fun i => i = gp ∨ i = ga ∨ i = ge) (fun i _ e => .inr (.inl (by simpa using e.symm)))) (fun _ _ e => e)).setCell (p := ⟨ge, 0, none⟩) (fun _ => .inr (.inr rfl)) _
  generalize ((w.setRow gp zPk).setRow ga zAu).setCell ⟨ge, 0, none⟩ (.int .i64 k) = W at *
  simp [bodyPostS, results, Try.results49]
  exact ⟨hD, hK⟩
end Go.Proofs.Ytbkejlalbjomkaa
namespace Go.Proofs.Ytbkejlalbjomkaa
set_option linter.unusedVariables false
open Go.RowKit

def kdAt (xs : List Int) : Int := be ((xs.drop 14).take 2)
def tyAt (xs : List Int) : Int := be ((xs.drop 1).take 1)
def auL (k : Int) (l : List Int) : Au := ⟨k, l.getD 0 0, l.getD 1 0, l.getD 2 0, l.getD 3 0, l.getD 4 0, l.getD 5 0, l.getD 6 0, l.getD 7 0⟩
def auAt (xs : List Int) : Au := auL (kdAt xs) ((xs.drop 16).take 8)
/-- The bytes that a packet says are its own. -/
def pkB (xs : List Int) : List Int := xs.take (pkLen xs).1.toNat
/-- Are bytes a packet? -/
structure DecOk (xs : List Int) : Prop where
  len : (pkLen xs).2 = 0
  kind : kdAt xs ≤ 2
  all : kdAt xs ≠ 2 → (pkLen xs).1 = xs.length
  right : kdAt xs ≠ 2 → pkRight xs = true
  part : partOk (pkB xs) (tyAt xs)
def DecP (w w' : World) (xs : List Int) (e : Ending) : Prop :=
  (¬ DecOk xs ∧ (∃ k, k ≠ 0 ∧ e = .returned (.tuple #[.agg zPk, .agg zAu, .int .i64 k])) ∧ Below w.heap.size w w') ∨
  (DecOk xs ∧ ∃ p : PA, e = .returned (.tuple #[p.v, (auAt xs).v, .int .i64 0]) ∧ PkY w w' p ∧ PIs (pkB xs) (tyAt xs) (be ((xs.drop 4).take 4)) (be ((xs.drop 8).take 4)) p ∧ Below w.heap.size w w')
theorem results_three {P : Program} {fn : Func} {p q r : Tmp} {ty ty2 ty3 : TypeId} (h : fn.results = #[.cell p ty, .cell q ty2, .cell r ty3]) (tmps : Array Value) (w : World) (g g2 g3 : Nat) (t t2 : TypeId) (cs cs2 : Array Value) (d d2 : TypeDesc) (u : Value)
    (hp : tmps.getD p undef = .pointer (some ⟨g, 0, none⟩)) (hg : Blk w g t cs)
    (hu : P.underlying ty = some d) (hd : (match d with | .struct _ | .array _ _ => true | _ => false) = true) (hi : (P.info? ty).map (·.size) = some cs.size)
    (hq : tmps.getD q undef = .pointer (some ⟨g2, 0, none⟩)) (hg2 : Blk w g2 t2 cs2)
    (hu2 : P.underlying ty2 = some d2) (hd2 : (match d2 with | .struct _ | .array _ _ => true | _ => false) = true) (hi2 : (P.info? ty2).map (·.size) = some cs2.size)
    (hr : tmps.getD r undef = .pointer (some ⟨g3, 0, none⟩)) (hl : (loadVar ty3 ⟨g3, 0, none⟩).run P w = .ok u w) :
    (results fn tmps).run P w = .ok (.tuple #[.agg cs, .agg cs2, u]) w := by
  have hp' : tmps[p]?.getD undef = .pointer (some ⟨g, 0, none⟩) := by simpa using hp
  have hq' : tmps[q]?.getD undef = .pointer (some ⟨g2, 0, none⟩) := by simpa using hq
  have hr' : tmps[r]?.getD undef = .pointer (some ⟨g3, 0, none⟩) := by simpa using hr
  simp [results, h, hp', hq', hr', asAddr, run_loadVar_row w g t ty cs (0, 0) d hg hu hd hi, run_loadVar_row w g2 t2 ty2 cs2 (0, 0) d2 hg2 hu2 hd2 hi2, hl]
/-- What stands where Decode goes away: the three blocks. -/
def DlQ (w : World) (gp ga ge : Nat) (k : Int) (e : Exit) (a : Act) (W : World) : Prop :=
  e = .normal ∧ a.defers = [] ∧ a.tmps.getD 2 undef = .pointer (some ⟨gp, 0, none⟩) ∧ a.tmps.getD 3 undef = .pointer (some ⟨ga, 0, none⟩) ∧ a.tmps.getD 4 undef = .pointer (some ⟨ge, 0, none⟩) ∧ De3 W gp ga ge zPk zAu k ∧ Below w.heap.size w W
theorem ld_errno (w : World) (g : Nat) (k : Int) (hc : w.cell? ⟨g, 0, none⟩ = some (.int .i64 k)) : (loadVar 40 ⟨g, 0, none⟩).run Try.prog w = .ok (.int .i64 k) w := by
  simp [go_sem, hc]
theorem three_blks (w : World) (a b c : Obj) : let W := ((w.alloc a).alloc b).alloc c
    W.heap[w.heap.size]? = some a ∧ W.heap[w.heap.size + 1]? = some b ∧ W.heap[w.heap.size + 1 + 1]? = some c ∧ Below w.heap.size w W := by
  intro W
  have e1 : (w.alloc a).heap.size = w.heap.size + 1 := World.size_alloc _ _
  have e2 : ((w.alloc a).alloc b).heap.size = w.heap.size + 2 := by rw [World.size_alloc, e1]
  have keep : ∀ (v : World) (o : Obj) (i : Nat) (x : Obj), v.heap[i]? = some x → (v.alloc o).heap[i]? = some x := fun v o i x h => by
    have hi : i < v.heap.size := by
      rcases Nat.lt_or_ge i v.heap.size with h2 | h2
      · exact h2
      · rw [Array.getElem?_eq_none h2] at h; cases h
    exact (Below.heap_alloc v o i hi).trans h
  refine ⟨keep _ _ _ _ (keep _ _ _ _ (heap_alloc_new w a)), ?_, ?_, ?_⟩
  · exact keep _ _ _ _ (by have := heap_alloc_new (w.alloc a) b; rwa [e1] at this)
  · have := heap_alloc_new ((w.alloc a).alloc b) c; rwa [e2] at this
  · exact (((Below.refl _ _).alloc (Nat.le_refl _) _).alloc (by rw [World.size_alloc]; omega) _).alloc (by rw [e2]; omega) _
theorem de3_new (w : World) : De3 (((w.alloc (.cells zPk 33)).alloc (.cells zAu 44)).alloc (.cells #[.int .i64 0] 40)) w.heap.size (w.heap.size + 1) (w.heap.size + 1 + 1) zPk zAu 0 ∧ Below w.heap.size w (((w.alloc (.cells zPk 33)).alloc (.cells zAu 44)).alloc (.cells #[.int .i64 0] 40)) := by
  obtain ⟨n0, n1, n2, nb⟩ := three_blks w (.cells zPk 33) (.cells zAu 44) (.cells #[.int .i64 0] 40)
  exact ⟨⟨n0, n1, n2, by omega, by omega, by omega⟩, nb⟩
theorem De3.kept {S : Nat → Prop} {W W' : World} {gp ga ge : Nat} {C A : Array Value} {k : Int} (h : De3 W gp ga ge C A k) (hk : Kept S W W') (h1 : ¬ S gp) (h2 : ¬ S ga) (h3 : ¬ S ge) : De3 W' gp ga ge C A k := ⟨h.p.kept hk h1, h.a.kept hk h2, h.e.kept hk h3, h.pa, h.pe, h.ae⟩
theorem De3.later {W W' : World} {gp ga ge : Nat} {C A : Array Value} {k : Int} (h : De3 W gp ga ge C A k) (hb : Below W.heap.size W W') : De3 W' gp ga ge C A k := ⟨h.p.later hb, h.a.later hb, h.e.later hb, h.pa, h.pe, h.ae⟩
theorem De3.setE {W : World} {gp ga ge : Nat} {C A : Array Value} {k : Int} (h : De3 W gp ga ge C A k) (x : Int) : De3 (W.setCell ⟨ge, 0, none⟩ (.int .i64 x)) gp ga ge C A x := ⟨h.p.far (p := ⟨ge, 0, none⟩) h.pe _, h.a.far (p := ⟨ge, 0, none⟩) h.ae _, h.e.set_ 0 _, h.pa, h.pe, h.ae⟩
theorem De3.setP {W : World} {gp ga ge : Nat} {C A : Array Value} {k : Int} (h : De3 W gp ga ge C A k) (C' : Array Value) : De3 (W.setRow gp C') gp ga ge C' A k := ⟨h.p.setRow C', h.a.setRow_far h.pa.symm C', h.e.setRow_far h.pe.symm C', h.pa, h.pe, h.ae⟩
theorem De3.setA {W : World} {gp ga ge : Nat} {C A : Array Value} {k : Int} (h : De3 W gp ga ge C A k) (A' : Array Value) : De3 (W.setRow ga A') gp ga ge C A' k := ⟨h.p.setRow_far h.pa A', h.a.setRow A', h.e.setRow_far h.ae.symm A', h.pa, h.pe, h.ae⟩
set_option maxRecDepth 100000 in
set_option maxHeartbeats 8000000 in
theorem dec_len (A : Option Addr) (n c : Nat) (xs : List Int) (w : World) (hx : Reads w w.heap.size 1 A n (u8s xs)) (ho : Oct xs) (hc : n ≤ c) (hm : c ≤ 9223372036854775807) (he : (pkLen xs).2 ≠ 0) :
    Calls Try.prog 13 #[.slice A n c] w fun e w' => DecP w w' xs e := by
  have HN := Lib.hid (de3_new w)
  have HX := Lib.hid (And.intro (hx.later HN.out.2) ho)
  have HE := Lib.hid he
  clear hx ho
  go_enter_defers Try.func13, Try.ntmps13
  go_wp2_with fail
  unfold zPk zAu at HN HX
  generalize hge : w.heap.size + 1 + 1 = ge at *
  generalize hga : w.heap.size + 1 = ga at *
  generalize hgp : w.heap.size = gp at *
  have HG := Lib.hid (And.intro hge (And.intro hga hgp))
  clear hge hga hgp
  generalize ((w.alloc (.cells #[.int .u8 0, .int .u32 0, .int .u32 0, .int .u32 0, .int .u16 0, .int .u8 0, .int .u8 0, .int .u32 0, .int .u32 0, .int .u32 0, .slice none 0 0, .int .u16 0, .int .u8 0, .int .u8 0, .int .u32 0, .slice none 0 0, .slice none 0 0, .slice none 0 0, .slice none 0 0] 33)).alloc (.cells #[.int .u16 0, .int .u8 0, .int .u8 0, .int .u8 0, .int .u8 0, .int .u8 0, .int .u8 0, .int .u8 0, .int .u8 0] 44)).alloc (.cells #[.int .i64 0] 40) = w1 at *
  refine (length_any A n c xs w1 _ HX.out.1 HX.out.2 hc hm).mono ?_
  rintro e w2 ⟨rfl, kd, rfl⟩
  have HD := Lib.hid (HN.out.1.later (below_of_drewN _ w1 kd))
  have HB := Lib.hid (HN.out.2.trans (below_of_drewN _ w1 kd))
  generalize w1.drewN kd = w2 at *
  have f0 := HD.out.e.frozen 0
  have c0 := HD.out.e.cell 0
  simp at c0
  obtain ⟨k, hk⟩ : ∃ k, (pkLen xs).2 = k := ⟨_, rfl⟩
  obtain ⟨m, hm2⟩ : ∃ m, (pkLen xs).1 = m := ⟨_, rfl⟩
  rw [hk, hm2]
  rw [hk] at HE
  have HK := Lib.hid hk
  clear hk hm2 he
  have hz : (k != 0) = true := by simpa using HE.out
  have HD2 := Lib.hid (HD.out.setE k)
  have HB2 := Lib.hid (HB.out.setCell (p := ⟨ge, 0, none⟩) (show gp ≤ ge by have := HG.out; omega) (.int .i64 k))
  have f1 := HD2.out.e.frozen 0
  have c1 := HD2.out.e.cell 0
  simp at c1
  go_wp2_with fail
  clear f0 c0 f1
  have HS : Hid ((fun W : World => W.cell? ⟨ge, 0, none⟩ = some (.int .i64 k)) (w2.setCell ⟨ge, 0, none⟩ (.int .i64 k)).drew) := Lib.hid c1
  refine Code.wp_mono (Q := DlQ w gp ga ge k) ?_ ?_
  · rintro e act w7 ⟨rfl, hd, t2, t3, t4, hD, hb⟩
    have HD7 := Lib.hid (And.intro hD hb)
    obtain ⟨tm, df⟩ := act
    simp only at hd t2 t3 t4
    subst hd
    clear hD hb HS c1 HD2 HB2 HD HB HN HX
    go_simp
    go_wp2_with fail
    show Leaves _ _ _ _ _ _ _
    exact ⟨_, results_three rfl tm w7 gp ga ge 33 44 zPk zAu _ _ (.int .i64 k) t2 HD7.out.1.p Try.underlying33 rfl info_pk t3 HD7.out.1.a Try.underlying44 rfl info_au t4 (ld_errno _ _ _ (HD7.out.1.e.cell 0)), .inl ⟨fun h => HE.out (by rw [← HK.out]; exact h.len), ⟨k, HE.out, rfl⟩, HD7.out.2⟩⟩
  refine wp_region_s (fun W : World => W.cell? ⟨ge, 0, none⟩ = some (.int .i64 k)) [(0, true), (1, true), (2, true), (3, false), (4, false), (5, false)] (by kernel_rfl) (fun _ d _ _ _ h => absurd h.1 (by intro e; cases e)) ?_
  simp only [List.map_cons, List.map_nil, nthOp_zero, nthOp_succ]
  replace HD2 := Lib.hid (HD2.out.later (Below.refl _ _).drew)
  replace HB2 := Lib.hid (HB2.out.trans (Below.refl _ _).drew)
  generalize (w2.setCell ⟨ge, 0, none⟩ (.int .i64 k)).drew = w3 at *
  clear c1 HD HB HN HX
  refine wpS_take HS (by rfl) (by intro W hW; clear hW; go_simp; try with_reducible rfl) ?_
  refine wpS_take HS (by rfl) (by intro W hW; clear hW; go_simp; try with_reducible rfl) ?_
  refine wpS_take HS (by rfl) (by intro W hW; go_simp; try with_reducible rfl) ?_
  go_simp
  refine wpS_do fun K hK => ?_
  go_wp2_with (refine wpList_store_row rfl 33 _ _ rfl gp zPk rfl rfl 33 _ HD2.out.p info_pk rfl one_pk ?_)
  replace HD2 := Lib.hid (HD2.out.setP zPk)
  replace HB2 := Lib.hid (below_setRow HB2.out (Nat.le_refl gp) zPk)
  generalize w3.setRow gp zPk = w4 at *
  refine hK.out _ _ (HD2.out.e.cell 0) ?_
  clear hK K HS
  have HS : Hid ((fun W : World => W.cell? ⟨ge, 0, none⟩ = some (.int .i64 k)) w4) := Lib.hid (HD2.out.e.cell 0)
  refine wpS_do fun K hK => ?_
  go_wp2_with (refine wpList_store_row rfl 44 _ _ rfl ga zAu rfl rfl 44 _ HD2.out.a info_au rfl one_au ?_)
  replace HD2 := Lib.hid (HD2.out.setA zAu)
  replace HB2 := Lib.hid (below_setRow HB2.out (show gp ≤ ga by have := HG.out; omega) zAu)
  generalize w4.setRow ga zAu = w5 at *
  refine hK.out _ _ (HD2.out.e.cell 0) ?_
  clear hK K HS
  refine wpS_do fun K hK => ?_
  have f5 := HD2.out.e.frozen 0
  have c5 := HD2.out.e.cell 0
  simp at c5
  go_wp2_with fail
  replace HD2 := Lib.hid (HD2.out.setE k)
  replace HB2 := Lib.hid (HB2.out.setCell (p := ⟨ge, 0, none⟩) (show gp ≤ ge by have := HG.out; omega) (.int .i64 k))
  clear f5 c5
  generalize w5.setCell ⟨ge, 0, none⟩ (.int .i64 k) = w6 at *
  refine hK.out _ _ (HD2.out.e.cell 0) ?_
  clear hK K
  refine wpS_nil ?_
  exact ⟨rfl, rfl, rfl, rfl, rfl, HD2.out, by rw [HG.out.2.2]; exact HB2.out⟩
end Go.Proofs.Ytbkejlalbjomkaa
namespace Go.Proofs.Ytbkejlalbjomkaa
set_option linter.unusedVariables false
open Go.RowKit

/-- Read: a reader of a copy that is new. -/
theorem read_new (A : Option Addr) (n c : Nat) (xs : List Int) (w : World) (hx : Reads w w.heap.size 1 A n (u8s xs)) (hn : n ≤ 140737488355328) :
    Calls Try.prog 50 #[.slice A n c] w fun e w' => ∃ g A' c', e = .returned (.pointer (some ⟨g, 0, none⟩)) ∧ RS w' g A' n c' ⟨xs, 0, 0⟩ ∧ w.heap.size ≤ g ∧ Below w.heap.size w w' ∧ (∀ ad, A' = some ad → w.heap.size ≤ ad.block) := by
  have hl := Lib.hid hx.u8len
  go_enter Try.func50, Try.ntmps50
  go_wp2_with (go_at_call 73; refine (clone_any A n c xs w hx hn).mono ?_; rintro e w1 ⟨u, rfl, ho, hb⟩; have hs := own_shape ho; obtain ⟨A1, c1, hu, h1, h2, h3⟩ := hs; rw [hl.out] at hu; subst hu; have HO := Lib.hid (And.intro h1 (And.intro h2 (And.intro h3 (And.intro hb (fun (ad : Addr) (e : A1 = some ad) => (own_ge ho (by rw [e]; rfl)).1))))); clear ho hb h1 h2 h3)
  go_ret
  rw [hl.out] at HO
  obtain ⟨h1, h2, h3, hb, hq⟩ := HO.out
  exact ⟨_, A1, c1, rfl, ⟨Blk.new _ _ _, h3.later ((Below.refl _ _).alloc (Nat.le_refl _) _), Nat.zero_le _, h1, h2, fun h0 => h3.ne_blk (Nat.le_refl _) h0⟩, hb.size, hb.alloc hb.size _, hq⟩
/-- Decode at work: a reader, and the three blocks that are answered with. -/
structure DeF (w W : World) (g gp ga ge : Nat) (q : Rq) (s : Rd) (C A : Array Value) : Prop where
  r : RR w W g q s
  d : De3 W gp ga ge C A 0
  bp : w.heap.size ≤ gp
  ba : w.heap.size ≤ ga
  be : w.heap.size ≤ ge
  qa : 0 < q.n → ∀ ad, q.A = some ad → ad.block ≠ gp ∧ ad.block ≠ ga ∧ ad.block ≠ ge
  ne : gp ≠ g ∧ ga ≠ g ∧ ge ≠ g
theorem DeF.later {w W W' : World} {g gp ga ge : Nat} {q : Rq} {s : Rd} {C A : Array Value} (h : DeF w W g gp ga ge q s C A) (hb : Below W.heap.size W W') : DeF w W' g gp ga ge q s C A := ⟨h.r.later hb, h.d.later hb, h.bp, h.ba, h.be, h.qa, h.ne⟩
theorem DeF.step {w W W' : World} {g gp ga ge : Nat} {q : Rq} {s s' : Rd} {C A : Array Value} (h : DeF w W g gp ga ge q s C A) (k : Kept (fun i => i = g) W W') (hr : RR w W' g q s') : DeF w W' g gp ga ge q s' C A := ⟨hr, h.d.kept k h.ne.1 h.ne.2.1 h.ne.2.2, h.bp, h.ba, h.be, h.qa, h.ne⟩
theorem DeF.setP {w W : World} {g gp ga ge : Nat} {q : Rq} {s : Rd} {C A : Array Value} (h : DeF w W g gp ga ge q s C A) (C' : Array Value) : DeF w (W.setRow gp C') g gp ga ge q s C' A :=
  ⟨h.r.kept ((Kept.of_grown (only_setRow W gp C')).mono (T := fun i => i = gp) fun i _ e => by simpa using e.symm) (fun e => h.ne.1 e.symm) (fun hn ad e e' => (h.qa hn ad e).1 e') (fun j e => by have := h.bp; omega), h.d.setP C', h.bp, h.ba, h.be, h.qa, h.ne⟩
theorem DeF.setA {w W : World} {g gp ga ge : Nat} {q : Rq} {s : Rd} {C A : Array Value} (h : DeF w W g gp ga ge q s C A) (A' : Array Value) : DeF w (W.setRow ga A') g gp ga ge q s C A' :=
  ⟨h.r.kept ((Kept.of_grown (only_setRow W ga A')).mono (T := fun i => i = ga) fun i _ e => by simpa using e.symm) (fun e => h.ne.2.1 e.symm) (fun hn ad e e' => (h.qa hn ad e).2.1 e') (fun j e => by have := h.ba; omega), h.d.setA A', h.bp, h.ba, h.be, h.qa, h.ne⟩
theorem DeF.putP {w W : World} {g gp ga ge : Nat} {q : Rq} {s : Rd} {C A : Array Value} (h : DeF w W g gp ga ge q s C A) (i : Nat) (u : Value) : DeF w (W.setCell ⟨gp, i, none⟩ u) g gp ga ge q s (C.setIfInBounds i u) A :=
  ⟨h.r.kept (kept_set W gp i u) (fun e => h.ne.1 e.symm) (fun hn ad e e' => (h.qa hn ad e).1 e') (fun j e => by have := h.bp; omega), ⟨h.d.p.set_ i u, h.d.a.far (p := ⟨gp, i, none⟩) h.d.pa.symm u, h.d.e.far (p := ⟨gp, i, none⟩) h.d.pe.symm u, h.d.pa, h.d.pe, h.d.ae⟩, h.bp, h.ba, h.be, h.qa, h.ne⟩
theorem DeF.putA {w W : World} {g gp ga ge : Nat} {q : Rq} {s : Rd} {C A : Array Value} (h : DeF w W g gp ga ge q s C A) (i : Nat) (u : Value) : DeF w (W.setCell ⟨ga, i, none⟩ u) g gp ga ge q s C (A.setIfInBounds i u) :=
  ⟨h.r.kept (kept_set W ga i u) (fun e => h.ne.2.1 e.symm) (fun hn ad e e' => (h.qa hn ad e).2.1 e') (fun j e => by have := h.ba; omega), ⟨h.d.p.far (p := ⟨ga, i, none⟩) h.d.pa u, h.d.a.set_ i u, h.d.e.far (p := ⟨ga, i, none⟩) h.d.ae.symm u, h.d.pa, h.d.pe, h.d.ae⟩, h.bp, h.ba, h.be, h.qa, h.ne⟩
/-- Where Decode throws. -/
theorem dec_throw (w W : World) (gp ga ge : Nat) (C A : Array Value) (k : Int) (xs : List Int) (tm : Array Value) (h : De3 W gp ga ge C A 0) (hC : C.size = 19) (hA : A.size = 9) (hb : Below w.heap.size w W) (bp : w.heap.size ≤ gp) (ba : w.heap.size ≤ ga) (be : w.heap.size ≤ ge) (hno : ¬ DecOk xs) (hk : k ≠ 0)
    (t2 : tm.getD 2 undef = .pointer (some ⟨gp, 0, none⟩)) (t3 : tm.getD 3 undef = .pointer (some ⟨ga, 0, none⟩)) (t4 : tm.getD 4 undef = .pointer (some ⟨ge, 0, none⟩)) :
    bodyPostD Try.prog Try.f13 (fun e w' => DecP w w' xs e) (Exit.panic [{ v := .iface 40 (.int .i64 k), recovered := false }]) { tmps := tm, defers := [{ target := .fn (.func 49) #[.pointer (some ⟨gp, 0, none⟩), .pointer (some ⟨ga, 0, none⟩), .pointer (some ⟨ge, 0, none⟩)], args := #[] }] } W := by
  show Leaves _ _ _ _ _ _ _
  refine leaves_cons (f := 49) (args := #[.pointer (some ⟨gp, 0, none⟩), .pointer (some ⟨ga, 0, none⟩), .pointer (some ⟨ge, 0, none⟩)]) (by simp) (by simp [go_sem]) ?_
  refine (dec_caught gp ga ge C A 0 k [] W h hC hA).mono ?_
  rintro e u' w'' ⟨rfl, rfl, hd, hkk⟩
  simp [Leaves, settle, go_sem]
  exact ⟨_, results_three rfl tm w'' gp ga ge 33 44 zPk zAu _ _ (.int .i64 k) t2 hd.p Try.underlying33 rfl info_pk t3 hd.a Try.underlying44 rfl info_au t4 (ld_errno _ _ _ (hd.e.cell 0)), .inl ⟨hno, ⟨k, hk, rfl⟩, hb.trans (hkk.below (fun i hi => by rcases hi with rfl | rfl | rfl <;> assumption) hb.size)⟩⟩
/-- Where it is done. -/
theorem dec_done (w W : World) (gp ga ge : Nat) (p : PA) (a : Au) (xs : List Int) (tm : Array Value) (h : De3 W gp ga ge p.C a.C 0) (hok : DecOk xs) (ha : a = auAt xs) (hy : PkY w W p) (hp : PIs (pkB xs) (tyAt xs) (be ((xs.drop 4).take 4)) (be ((xs.drop 8).take 4)) p) (hb : Below w.heap.size w W)
    (t2 : tm.getD 2 undef = .pointer (some ⟨gp, 0, none⟩)) (t3 : tm.getD 3 undef = .pointer (some ⟨ga, 0, none⟩)) (t4 : tm.getD 4 undef = .pointer (some ⟨ge, 0, none⟩)) :
    bodyPostD Try.prog Try.f13 (fun e w' => DecP w w' xs e) Exit.ret { tmps := tm, defers := [{ target := .fn (.func 49) #[.pointer (some ⟨gp, 0, none⟩), .pointer (some ⟨ga, 0, none⟩), .pointer (some ⟨ge, 0, none⟩)], args := #[] }] } W := by
  show Leaves _ _ _ _ _ _ _
  refine leaves_cons (f := 49) (args := #[.pointer (some ⟨gp, 0, none⟩), .pointer (some ⟨ga, 0, none⟩), .pointer (some ⟨ge, 0, none⟩)]) (by simp) (by simp [go_sem]) ?_
  refine (dec_idle gp ga ge W).mono ?_
  rintro e u' w'' ⟨rfl, rfl, rfl⟩
  simp [Leaves, settle, go_sem]
  exact ⟨_, results_three rfl tm _ gp ga ge 33 44 p.C a.C _ _ (.int .i64 0) t2 h.p Try.underlying33 rfl info_pk t3 h.a Try.underlying44 rfl info_au t4 (ld_errno _ _ _ (h.e.cell 0)), .inr ⟨hok, p, by rw [ha], hy, hp, hb⟩⟩
def sC (g : Nat) : Array Value := #[.nilFunc, .func (.func 53) #[.agg #[.pointer (some ⟨g, 0, none⟩)]] #[], .func (.func 54) #[.agg #[.pointer (some ⟨g, 0, none⟩)]] #[], .func (.func 55) #[.agg #[.pointer (some ⟨g, 0, none⟩)]] #[], .func (.func 56) #[.agg #[.pointer (some ⟨g, 0, none⟩)]] #[], .func (.func 57) #[.agg #[.pointer (some ⟨g, 0, none⟩)]] #[]]
theorem sC_at (g : Nat) (t : Int) (h1 : 1 ≤ t) (h5 : t ≤ 5) : (sC g)[t.toNat]? = some (.func (.func (qN t)) #[.agg #[.pointer (some ⟨g, 0, none⟩)]] #[]) := by
  have hc : t = 1 ∨ t = 2 ∨ t = 3 ∨ t = 4 ∨ t = 5 := by omega
  rcases hc with rfl | rfl | rfl | rfl | rfl <;> rfl
theorem entq_hello (args : Array Value) (W : World) : (callFunc 53 args).run Try.prog W = .ok (.enter 53 args) W := by kernel_rfl
theorem entq_description (args : Array Value) (W : World) : (callFunc 54 args).run Try.prog W = .ok (.enter 54 args) W := by kernel_rfl
theorem entq_request (args : Array Value) (W : World) : (callFunc 55 args).run Try.prog W = .ok (.enter 55 args) W := by kernel_rfl
theorem entq_update (args : Array Value) (W : World) : (callFunc 56 args).run Try.prog W = .ok (.enter 56 args) W := by kernel_rfl
theorem entq_ack (args : Array Value) (W : World) : (callFunc 57 args).run Try.prog W = .ok (.enter 57 args) W := by kernel_rfl
theorem enter_q (t : Int) (h1 : 1 ≤ t) (h5 : t ≤ 5) (args : Array Value) (W : World) : (callFunc (qN t) args).run Try.prog W = .ok (.enter (qN t) args) W := by
  have hc : t = 1 ∨ t = 2 ∨ t = 3 ∨ t = 4 ∨ t = 5 := by omega
  clear h1 h5
  rcases hc with rfl | rfl | rfl | rfl | rfl
  · rw [show qN 1 = 53 from rfl]; exact entq_hello args W
  · rw [show qN 2 = 54 from rfl]; exact entq_description args W
  · rw [show qN 3 = 55 from rfl]; exact entq_request args W
  · rw [show qN 4 = 56 from rfl]; exact entq_update args W
  · rw [show qN 5 = 57 from rfl]; exact entq_ack args W
theorem info_s6 : (Try.prog.info? 103).map (·.size) = some 6 := by kernel_rfl
theorem bytes_at {xs : List Int} {m a k : Nat} (h : a + k ≤ m) : ((xs.take m).drop a).take k = (xs.drop a).take k := by
  rw [List.drop_take, List.take_take]
  congr 1
  omega
theorem getD_two {xs : List Int} {a : Nat} (h : a + 2 ≤ xs.length) : be ((xs.drop a).take 2) = xs.getD a 0 * 256 + xs.getD (a + 1) 0 := by
  obtain ⟨x, hx⟩ : ∃ x, xs[a]? = some x := ⟨_, List.getElem?_eq_getElem (by omega)⟩
  obtain ⟨y, hy⟩ : ∃ y, xs[a + 1]? = some y := ⟨_, List.getElem?_eq_getElem (by omega)⟩
  have e : (xs.drop a).take 2 = [x, y] := by
    apply List.ext_getElem?
    intro i
    match i with
    | 0 => simp [hx]
    | 1 => simp [hy]
    | i + 2 => simp [List.getElem?_take]; intro h; omega
  rw [e]
  simp [be, List.getD, hx, hy]
theorem getD_one {xs : List Int} {a : Nat} (h : a < xs.length) : be ((xs.drop a).take 1) = xs.getD a 0 := by
  obtain ⟨x, hx⟩ : ∃ x, xs[a]? = some x := ⟨_, List.getElem?_eq_getElem (by omega)⟩
  have e : (xs.drop a).take 1 = [x] := by
    apply List.ext_getElem?
    intro i
    match i with
    | 0 => simp [hx]
    | i + 1 => simp [List.getElem?_take]
  rw [e]
  simp [be, List.getD, hx]
theorem pkLen_type {xs : List Int} (h : (pkLen xs).2 = 0) : 1 ≤ tyAt xs ∧ tyAt xs ≤ 5 := by
  have h24 := pkLen_ok h
  unfold tyAt
  rw [getD_one (by omega)]
  unfold pkLen at h
  split at h
  · cases h
  · split at h
    · cases h
    · split at h
      · cases h
      · omega
theorem setRow_second (w : World) (a : Obj) (b cs : Array Value) (t : TypeId) : ((w.alloc a).alloc (.cells b t)).setRow (w.heap.size + 1) cs = (w.alloc a).alloc (.cells cs t) := by
  have := World.setRow_alloc_new (w.alloc a) b cs t
  rwa [World.size_alloc] at this
theorem PkY.mono {w w0 W : World} {p : PA} (h : PkY w W p) (hb : w0.heap.size ≤ w.heap.size) : PkY w0 W p := ⟨own_mono h.n hb, own_mono h.d hb, own_mono h.k hb, h.s.mono hb, own_mono h.h hb⟩
theorem PkY.later {w W W' : World} {p : PA} (h : PkY w W p) (hb : Below W.heap.size W W') : PkY w W' p :=
  have k := Kept.of_new hb (fun _ => False)
  ⟨own_kept h.n k (fun _ _ h => h), own_kept h.d k (fun _ _ h => h), own_kept h.k k (fun _ _ h => h), h.s.later hb, own_kept h.h k (fun _ _ h => h)⟩
theorem PkY.far {w W W' : World} {gp ga ge : Nat} {C A : Array Value} {x : Int} {p : PA} (h : PkY w W p) (d : De3 W gp ga ge C A x) (k : Kept (fun i => i = gp ∨ i = ga ∨ i = ge) W W') : PkY w W' p := by
  have far : ∀ {b n sz : Nat} {e : TypeId} {v : Value} {xs : List Value}, W.ownsRow b e sz v n xs → e ≠ 33 → e ≠ 44 → e ≠ 40 → W'.ownsRow b e sz v n xs := fun ho h1 h2 h3 => own_kept ho k (fun i hi e => by
    rcases e with rfl | rfl | rfl
    · exact own_blk_ne ho d.p h1 hi
    · exact own_blk_ne ho d.a h2 hi
    · exact own_blk_ne ho d.e h3 hi)
  exact ⟨far h.n (by decide) (by decide) (by decide), far h.d (by decide) (by decide) (by decide), far h.k (by decide) (by decide) (by decide), ⟨far h.s.row (by decide) (by decide) (by decide), fun s hs => ⟨(h.s.ok s hs).head, far (h.s.ok s hs).body (by decide) (by decide) (by decide), (h.s.ok s hs).oct, (h.s.ok s hs).len⟩⟩, far h.h (by decide) (by decide) (by decide)⟩
theorem kept_three (W : World) (gp ga ge : Nat) (C A : Array Value) (u : Value) : Kept (fun i => i = gp ∨ i = ga ∨ i = ge) W (((W.setRow gp C).setRow ga A).setCell ⟨ge, 0, none⟩ u) :=
  (((Kept.of_grown (only_setRow W gp C)).mono (T := fun i => i = gp ∨ i = ga ∨ i = ge) (fun i _ e => .inl (by simpa using e.symm))).trans ((Kept.of_grown (only_setRow _ ga A)).mono (T := fun i => i = gp ∨ i = ga ∨ i = ge) (fun i _ e => .inr (.inl (by simpa using e.symm)))) (fun _ _ e => e)).setCell (p := ⟨ge, 0, none⟩) (fun _ => .inr (.inr rfl)) _
theorem DeF.pkf {w W : World} {g gp ga ge : Nat} {q : Rq} {s : Rd} {C A : Array Value} (h : DeF w W g gp ga ge q s C A) : PkF w W g gp q s C := ⟨h.r, h.d.p, h.ne.1, h.bp, fun hn ad e => (h.qa hn ad e).1⟩
theorem DeF.fl {w W W' : World} {g gp ga ge : Nat} {q : Rq} {s : Rd} {C C' A : Array Value} (h : DeF w W g gp ga ge q s C A) (k : Kept (fun i => i = g ∨ i = gp) W W') (hp : Blk W' gp 33 C') : De3 W' gp ga ge C' A 0 :=
  ⟨hp, h.d.a.kept k (fun e => by rcases e with e | e; exact h.ne.2.1 e; exact h.d.pa e.symm), h.d.e.kept k (fun e => by rcases e with e | e; exact h.ne.2.2 e; exact h.d.pe e.symm), h.d.pa, h.d.pe, h.d.ae⟩
theorem one_PA (p : PA) : p.C.all (·.oneCell') = true := by simp [Value.oneCell']
theorem one_Au (a : Au) : a.C.all (·.oneCell') = true := by simp [Value.oneCell']
def DcQ (w : World) (g gp ga ge : Nat) (A : Option Addr) (n c m : Nat) (q : Rq) (ys : List Int) (t r a k : Int) (e : Exit) (act : Act) (W : World) : Prop :=
  e = .normal ∧ ∃ (u9 u10 u11 u12 u13 u14 u15 u16 u17 u18 u19 u20 u21 u22 u23 u24 u25 u26 u27 u28 u29 u30 u31 u32 u33 u34 u35 u36 u37 u38 u39 u40 u41 u42 u43 u44 u45 u46 u47 u48 : Value), act = { tmps := List.toArray (.slice A n c :: undef :: .pointer (some ⟨gp, 0, none⟩) :: .pointer (some ⟨ga, 0, none⟩) :: .pointer (some ⟨ge, 0, none⟩) :: .int .i64 (m : Int) :: .pointer (some ⟨g, 0, none⟩) :: undef :: undef :: u9 :: u10 :: u11 :: u12 :: u13 :: u14 :: u15 :: u16 :: u17 :: u18 :: u19 :: u20 :: u21 :: u22 :: u23 :: u24 :: u25 :: u26 :: u27 :: u28 :: u29 :: u30 :: u31 :: u32 :: u33 :: u34 :: u35 :: u36 :: u37 :: u38 :: u39 :: u40 :: u41 :: u42 :: u43 :: u44 :: u45 :: u46 :: u47 :: u48 :: undef :: undef :: undef :: undef :: undef :: undef :: undef :: undef :: undef :: undef :: undef :: undef :: undef :: undef :: undef :: undef :: undef :: undef :: undef :: undef :: undef :: undef :: undef :: undef :: undef :: undef :: undef :: undef :: undef :: undef :: undef :: undef :: undef :: undef :: undef :: undef :: undef :: undef :: undef :: undef :: undef :: undef :: undef :: undef :: undef :: undef :: undef :: undef :: []), defers := [{ target := .fn (.func 49) #[.pointer (some ⟨gp, 0, none⟩), .pointer (some ⟨ga, 0, none⟩), .pointer (some ⟨ge, 0, none⟩)], args := #[] }] } ∧ DeF w W g gp ga ge q ⟨ys, 24, 0⟩ (p0 t r a).C (auL k ((ys.drop 16).take 8)).C
theorem take8_of {l : List Int} (h : l.length = 8) : ∃ a b c d e f g i, l = [a, b, c, d, e, f, g, i] := by
  match l, h with
  | [a, b, c, d, e, f, g, i], _ => exact ⟨a, b, c, d, e, f, g, i, rfl⟩
end Go.Proofs.Ytbkejlalbjomkaa
