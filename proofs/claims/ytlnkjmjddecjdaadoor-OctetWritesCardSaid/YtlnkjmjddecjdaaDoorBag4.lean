/-
  Bag: adding, the lists that are empty, Apart. Printed by gen_bag4.py.
-/
import Derived.Test.YtlnkjmjddecjdaaDoorBag3
namespace Go.Proofs.YtlnkjmjddecjdaaDoor
set_option linter.unusedVariables false
open Go.RowKit Go.ChangeShapes Go.WideShapes

/-- A bag with rows of bytes alone. -/
@[reducible] def bagC (G : Sl) : Array Value := #[.slice G.A G.n G.c, .slice none 0 0, .slice none 0 0, .slice none 0 0, .slice none 0 0, .slice none 0 0, .slice none 0 0, .slice none 0 0, .slice none 0 0, .slice none 0 0, .slice none 0 0, .slice none 0 0, .slice none 0 0, .slice none 0 0, .slice none 0 0, .slice none 0 0, .slice none 0 0, .slice none 0 0, .slice none 0 0]
set_option maxRecDepth 100000 in
set_option maxHeartbeats 4000000 in
theorem addBytes_any (W : World) (base g : Nat) (G : Sl) (L : List Sl) (s : Sl) (hB : BagB W base g (bagC G) G L) (hn : G.n < 300) (hb : base ≤ W.heap.size) :
    Calls Tryd.prog 18 #[.pointer (some ⟨g, 0, none⟩), s.v] W fun e w' => e = .returned (.tuple #[]) ∧ ∃ G' : Sl, BagB w' base g (bagC G') G' (L ++ [s]) ∧ G'.n = G.n + 1 ∧ Kept (fun i => i = g ∨ G.v.ownBlock = some i) W w' := by
  obtain ⟨GA, Gn, Gc⟩ := G
  obtain ⟨sA, sn, sc⟩ := s
  replace hn : Gn < 300 := hn
  have HB := Lib.hid hB
  have y0 := hB.cell
  dsimp only [Sl.v] at y0
  have hd : decide ((Gn : Int) < 300) = true := decide_eq_true (by omega)
  have hd2 : decide (Gn < 300) = true := decide_eq_true hn
  have hbb : Below W.heap.size W (W.alloc (.cells #[.slice sA sn sc] 28)) := (Below.refl _ _).alloc (Nat.le_refl _) _
  have HO : Hid ((W.alloc (.cells #[.slice sA sn sc] 28)).ownsRow base 28 1 (.slice GA Gn Gc) Gn (slv L)) := Lib.hid (own_kept hB.row (Kept.of_new hbb (fun _ => False)) (fun _ _ h => h))
  have HBk := Lib.hid (hB.blk.later hbb)
  have HRd : Hid (Reads (W.alloc (.cells #[.slice sA sn sc] 28)) (W.heap.size + 1) 1 (some ⟨W.heap.size, 0, none⟩) 1 [.slice sA sn sc]) := Lib.hid (Reads.one_new _ _ _)
  have HBs := Lib.hid (Nat.le_trans hb hbb.size)
  have HK := Lib.hid (Kept.of_new hbb (fun i => i = g ∨ (.slice GA Gn Gc : Value).ownBlock = some i))
  clear hB hb hbb
  show Calls Tryd.prog 18 #[.pointer (some ⟨g, 0, none⟩), .slice sA sn sc] W _
  go_enter Tryd.func18, Tryd.ntmps18
  go_wp2_with (at_builtin; go_must (refine wpList_app2 el_b rfl (.tmp 14) (.tmp 16) rfl HO.out rfl HRd.out rfl (by simp [Value.oneCell']) (by simp only [maxLen]; omega) (by omega) HBs.out (by decide) ?_); intro v2 w2 ho2 hg2; obtain ⟨G2, hv2, hn2⟩ := sl_of ho2; subst hv2; have HO2 := Lib.hid ho2; have HG2 := Lib.hid hg2; have HN2 := Lib.hid hn2; have kk : Kept (fun i => (.slice GA Gn Gc : Value).ownBlock = some i) (W.alloc (.cells #[.slice sA sn sc] 28)) w2 := Kept.of_grown hg2.by; have hne : ¬ (.slice GA Gn Gc : Value).ownBlock = some g := own_blk_ne HO.out HBk.out (by decide); have HBk2 := Lib.hid (HBk.out.kept kk hne); have HK2 := Lib.hid (HK.out.trans kk (fun _ _ h => .inr h)); clear ho2 hg2 hn2 kk hne y0; have y0 := HBk2.out.cell 0; have f0 := HBk2.out.frozen 0; obtain ⟨gA2, gn2, gc2⟩ := G2; dsimp only [Sl.v])
  go_end0
  have hnb : (.slice gA2 gn2 gc2 : Value).ownBlock ≠ some g := own_blk_ne HO2.out HBk2.out (by decide)
  replace HN2 : gn2 = Gn + 1 := HN2.out
  subst HN2
  refine ⟨rfl, ⟨gA2, Gn + 1, gc2⟩, ⟨HBk2.out.set_ 0 _, rfl, ?_, ?_, ?_⟩, rfl, ?_⟩
  · rw [show slv (L ++ [(⟨sA, sn, sc⟩ : Sl)]) = slv L ++ [.slice sA sn sc] by simp [slv]]
    exact own_kept HO2.out (kept_setC w2 g 0 (.slice gA2 (Gn + 1) gc2)) (fun i hi e => hnb (by rw [hi]; exact congrArg some e))
  · have := HB.out.len
    simp [this]
  · show Gn + 1 ≤ 300
    omega
  · exact HK2.out.setCell (p := ⟨g, 0, none⟩) (fun _ => .inl rfl) _
set_option maxRecDepth 100000 in
set_option maxHeartbeats 2000000 in
theorem apartInts_none (g : Nat) (C : Array Value) (W : World) (hB : Blk W g 67 C) (h : C[1]? = some (.slice none 0 0)) :
    Calls Tryd.prog 30 #[.pointer (some ⟨g, 0, none⟩)] W fun e w' => e = .returned (.bool true) ∧ w' = W := by
  have y : W.cell? ⟨g, 1, none⟩ = some (.slice none 0 0) := by rw [hB.cell]; exact h
  clear hB h
  go_enter Tryd.func30, Tryd.ntmps30
  go_wp2_with fail
  go_loopw [3] (fun nv wr => nv = .int .i64 0 ∧ wr = W) (fun _ _ => 0)
  case atStart => exact ⟨rfl, rfl⟩
  case round =>
    obtain ⟨rfl, hw⟩ := hrel; obtain rfl : W = wr := hw.symm
    go_wp2_with fail
    go_loopw [6, 7] (fun mv nv wr => mv = .slice none 0 0 ∧ nv = .int .i64 0 ∧ wr = W) (fun _ _ _ => 0)
    case atStart => exact ⟨rfl, rfl, rfl⟩
    case round =>
      obtain ⟨rfl, rfl, hw⟩ := hrel; obtain rfl : W = wr := hw.symm
      go_wp2_with fail
      go_loopw [10] (fun nv wr => nv = .int .i64 0 ∧ wr = W) (fun _ _ => 0)
      case atStart => exact ⟨rfl, rfl⟩
      case round =>
        obtain ⟨rfl, hw⟩ := hrel; obtain rfl : W = wr := hw.symm
        go_wp2_with fail
        go_ret
        exact ⟨rfl, rfl⟩
set_option maxRecDepth 100000 in
set_option maxHeartbeats 2000000 in
theorem apartBools_none (g : Nat) (C : Array Value) (W : World) (hB : Blk W g 67 C) (h : C[2]? = some (.slice none 0 0)) :
    Calls Tryd.prog 31 #[.pointer (some ⟨g, 0, none⟩)] W fun e w' => e = .returned (.bool true) ∧ w' = W := by
  have y : W.cell? ⟨g, 2, none⟩ = some (.slice none 0 0) := by rw [hB.cell]; exact h
  clear hB h
  go_enter Tryd.func31, Tryd.ntmps31
  go_wp2_with fail
  go_loopw [3] (fun nv wr => nv = .int .i64 0 ∧ wr = W) (fun _ _ => 0)
  case atStart => exact ⟨rfl, rfl⟩
  case round =>
    obtain ⟨rfl, hw⟩ := hrel; obtain rfl : W = wr := hw.symm
    go_wp2_with fail
    go_loopw [6, 7] (fun mv nv wr => mv = .slice none 0 0 ∧ nv = .int .i64 0 ∧ wr = W) (fun _ _ _ => 0)
    case atStart => exact ⟨rfl, rfl, rfl⟩
    case round =>
      obtain ⟨rfl, rfl, hw⟩ := hrel; obtain rfl : W = wr := hw.symm
      go_wp2_with fail
      go_loopw [10] (fun nv wr => nv = .int .i64 0 ∧ wr = W) (fun _ _ => 0)
      case atStart => exact ⟨rfl, rfl⟩
      case round =>
        obtain ⟨rfl, hw⟩ := hrel; obtain rfl : W = wr := hw.symm
        go_wp2_with fail
        go_ret
        exact ⟨rfl, rfl⟩
set_option maxRecDepth 100000 in
set_option maxHeartbeats 2000000 in
theorem apartTexts_none (g : Nat) (C : Array Value) (W : World) (hB : Blk W g 67 C) (h : C[3]? = some (.slice none 0 0)) :
    Calls Tryd.prog 32 #[.pointer (some ⟨g, 0, none⟩)] W fun e w' => e = .returned (.bool true) ∧ w' = W := by
  have y : W.cell? ⟨g, 3, none⟩ = some (.slice none 0 0) := by rw [hB.cell]; exact h
  clear hB h
  go_enter Tryd.func32, Tryd.ntmps32
  go_wp2_with fail
  go_loopw [3] (fun nv wr => nv = .int .i64 0 ∧ wr = W) (fun _ _ => 0)
  case atStart => exact ⟨rfl, rfl⟩
  case round =>
    obtain ⟨rfl, hw⟩ := hrel; obtain rfl : W = wr := hw.symm
    go_wp2_with fail
    go_loopw [6, 7] (fun mv nv wr => mv = .slice none 0 0 ∧ nv = .int .i64 0 ∧ wr = W) (fun _ _ _ => 0)
    case atStart => exact ⟨rfl, rfl, rfl⟩
    case round =>
      obtain ⟨rfl, rfl, hw⟩ := hrel; obtain rfl : W = wr := hw.symm
      go_wp2_with fail
      go_loopw [10] (fun nv wr => nv = .int .i64 0 ∧ wr = W) (fun _ _ => 0)
      case atStart => exact ⟨rfl, rfl⟩
      case round =>
        obtain ⟨rfl, hw⟩ := hrel; obtain rfl : W = wr := hw.symm
        go_wp2_with fail
        go_ret
        exact ⟨rfl, rfl⟩
set_option maxRecDepth 100000 in
set_option maxHeartbeats 2000000 in
theorem apartLongs_none (g : Nat) (C : Array Value) (W : World) (hB : Blk W g 67 C) (h : C[4]? = some (.slice none 0 0)) :
    Calls Tryd.prog 33 #[.pointer (some ⟨g, 0, none⟩)] W fun e w' => e = .returned (.bool true) ∧ w' = W := by
  have y : W.cell? ⟨g, 4, none⟩ = some (.slice none 0 0) := by rw [hB.cell]; exact h
  clear hB h
  go_enter Tryd.func33, Tryd.ntmps33
  go_wp2_with fail
  go_loopw [3] (fun nv wr => nv = .int .i64 0 ∧ wr = W) (fun _ _ => 0)
  case atStart => exact ⟨rfl, rfl⟩
  case round =>
    obtain ⟨rfl, hw⟩ := hrel; obtain rfl : W = wr := hw.symm
    go_wp2_with fail
    go_loopw [6, 7] (fun mv nv wr => mv = .slice none 0 0 ∧ nv = .int .i64 0 ∧ wr = W) (fun _ _ _ => 0)
    case atStart => exact ⟨rfl, rfl, rfl⟩
    case round =>
      obtain ⟨rfl, rfl, hw⟩ := hrel; obtain rfl : W = wr := hw.symm
      go_wp2_with fail
      go_loopw [10] (fun nv wr => nv = .int .i64 0 ∧ wr = W) (fun _ _ => 0)
      case atStart => exact ⟨rfl, rfl⟩
      case round =>
        obtain ⟨rfl, hw⟩ := hrel; obtain rfl : W = wr := hw.symm
        go_wp2_with fail
        go_ret
        exact ⟨rfl, rfl⟩
set_option maxRecDepth 100000 in
set_option maxHeartbeats 2000000 in
theorem apartWords_none (g : Nat) (C : Array Value) (W : World) (hB : Blk W g 67 C) (h : C[5]? = some (.slice none 0 0)) :
    Calls Tryd.prog 34 #[.pointer (some ⟨g, 0, none⟩)] W fun e w' => e = .returned (.bool true) ∧ w' = W := by
  have y : W.cell? ⟨g, 5, none⟩ = some (.slice none 0 0) := by rw [hB.cell]; exact h
  clear hB h
  go_enter Tryd.func34, Tryd.ntmps34
  go_wp2_with fail
  go_loopw [3] (fun nv wr => nv = .int .i64 0 ∧ wr = W) (fun _ _ => 0)
  case atStart => exact ⟨rfl, rfl⟩
  case round =>
    obtain ⟨rfl, hw⟩ := hrel; obtain rfl : W = wr := hw.symm
    go_wp2_with fail
    go_loopw [6, 7] (fun mv nv wr => mv = .slice none 0 0 ∧ nv = .int .i64 0 ∧ wr = W) (fun _ _ _ => 0)
    case atStart => exact ⟨rfl, rfl, rfl⟩
    case round =>
      obtain ⟨rfl, rfl, hw⟩ := hrel; obtain rfl : W = wr := hw.symm
      go_wp2_with fail
      go_loopw [10] (fun nv wr => nv = .int .i64 0 ∧ wr = W) (fun _ _ => 0)
      case atStart => exact ⟨rfl, rfl⟩
      case round =>
        obtain ⟨rfl, hw⟩ := hrel; obtain rfl : W = wr := hw.symm
        go_wp2_with fail
        go_ret
        exact ⟨rfl, rfl⟩
set_option maxRecDepth 100000 in
set_option maxHeartbeats 2000000 in
theorem apartPrefixes_none (g : Nat) (C : Array Value) (W : World) (hB : Blk W g 67 C) (h : C[6]? = some (.slice none 0 0)) :
    Calls Tryd.prog 35 #[.pointer (some ⟨g, 0, none⟩)] W fun e w' => e = .returned (.bool true) ∧ w' = W := by
  have y : W.cell? ⟨g, 6, none⟩ = some (.slice none 0 0) := by rw [hB.cell]; exact h
  clear hB h
  go_enter Tryd.func35, Tryd.ntmps35
  go_wp2_with fail
  go_loopw [3] (fun nv wr => nv = .int .i64 0 ∧ wr = W) (fun _ _ => 0)
  case atStart => exact ⟨rfl, rfl⟩
  case round =>
    obtain ⟨rfl, hw⟩ := hrel; obtain rfl : W = wr := hw.symm
    go_wp2_with fail
    go_loopw [6, 7] (fun mv nv wr => mv = .slice none 0 0 ∧ nv = .int .i64 0 ∧ wr = W) (fun _ _ _ => 0)
    case atStart => exact ⟨rfl, rfl, rfl⟩
    case round =>
      obtain ⟨rfl, rfl, hw⟩ := hrel; obtain rfl : W = wr := hw.symm
      go_wp2_with fail
      go_loopw [10] (fun nv wr => nv = .int .i64 0 ∧ wr = W) (fun _ _ => 0)
      case atStart => exact ⟨rfl, rfl⟩
      case round =>
        obtain ⟨rfl, hw⟩ := hrel; obtain rfl : W = wr := hw.symm
        go_wp2_with fail
        go_ret
        exact ⟨rfl, rfl⟩
set_option maxRecDepth 100000 in
set_option maxHeartbeats 2000000 in
theorem apartHeads_none (g : Nat) (C : Array Value) (W : World) (hB : Blk W g 67 C) (h : C[7]? = some (.slice none 0 0)) :
    Calls Tryd.prog 36 #[.pointer (some ⟨g, 0, none⟩)] W fun e w' => e = .returned (.bool true) ∧ w' = W := by
  have y : W.cell? ⟨g, 7, none⟩ = some (.slice none 0 0) := by rw [hB.cell]; exact h
  clear hB h
  go_enter Tryd.func36, Tryd.ntmps36
  go_wp2_with fail
  go_loopw [3] (fun nv wr => nv = .int .i64 0 ∧ wr = W) (fun _ _ => 0)
  case atStart => exact ⟨rfl, rfl⟩
  case round =>
    obtain ⟨rfl, hw⟩ := hrel; obtain rfl : W = wr := hw.symm
    go_wp2_with fail
    go_loopw [6, 7] (fun mv nv wr => mv = .slice none 0 0 ∧ nv = .int .i64 0 ∧ wr = W) (fun _ _ _ => 0)
    case atStart => exact ⟨rfl, rfl, rfl⟩
    case round =>
      obtain ⟨rfl, rfl, hw⟩ := hrel; obtain rfl : W = wr := hw.symm
      go_wp2_with fail
      go_loopw [10] (fun nv wr => nv = .int .i64 0 ∧ wr = W) (fun _ _ => 0)
      case atStart => exact ⟨rfl, rfl⟩
      case round =>
        obtain ⟨rfl, hw⟩ := hrel; obtain rfl : W = wr := hw.symm
        go_wp2_with fail
        go_ret
        exact ⟨rfl, rfl⟩
set_option maxRecDepth 100000 in
set_option maxHeartbeats 2000000 in
theorem apartKeys_none (g : Nat) (C : Array Value) (W : World) (hB : Blk W g 67 C) (h : C[8]? = some (.slice none 0 0)) :
    Calls Tryd.prog 37 #[.pointer (some ⟨g, 0, none⟩)] W fun e w' => e = .returned (.bool true) ∧ w' = W := by
  have y : W.cell? ⟨g, 8, none⟩ = some (.slice none 0 0) := by rw [hB.cell]; exact h
  clear hB h
  go_enter Tryd.func37, Tryd.ntmps37
  go_wp2_with fail
  go_loopw [3] (fun nv wr => nv = .int .i64 0 ∧ wr = W) (fun _ _ => 0)
  case atStart => exact ⟨rfl, rfl⟩
  case round =>
    obtain ⟨rfl, hw⟩ := hrel; obtain rfl : W = wr := hw.symm
    go_wp2_with fail
    go_loopw [6, 7] (fun mv nv wr => mv = .slice none 0 0 ∧ nv = .int .i64 0 ∧ wr = W) (fun _ _ _ => 0)
    case atStart => exact ⟨rfl, rfl, rfl⟩
    case round =>
      obtain ⟨rfl, rfl, hw⟩ := hrel; obtain rfl : W = wr := hw.symm
      go_wp2_with fail
      go_loopw [10] (fun nv wr => nv = .int .i64 0 ∧ wr = W) (fun _ _ => 0)
      case atStart => exact ⟨rfl, rfl⟩
      case round =>
        obtain ⟨rfl, hw⟩ := hrel; obtain rfl : W = wr := hw.symm
        go_wp2_with fail
        go_ret
        exact ⟨rfl, rfl⟩
set_option maxRecDepth 100000 in
set_option maxHeartbeats 2000000 in
theorem apartLinks_none (g : Nat) (C : Array Value) (W : World) (hB : Blk W g 67 C) (h : C[9]? = some (.slice none 0 0)) :
    Calls Tryd.prog 38 #[.pointer (some ⟨g, 0, none⟩)] W fun e w' => e = .returned (.bool true) ∧ w' = W := by
  have y : W.cell? ⟨g, 9, none⟩ = some (.slice none 0 0) := by rw [hB.cell]; exact h
  clear hB h
  go_enter Tryd.func38, Tryd.ntmps38
  go_wp2_with fail
  go_loopw [3] (fun nv wr => nv = .int .i64 0 ∧ wr = W) (fun _ _ => 0)
  case atStart => exact ⟨rfl, rfl⟩
  case round =>
    obtain ⟨rfl, hw⟩ := hrel; obtain rfl : W = wr := hw.symm
    go_wp2_with fail
    go_loopw [6, 7] (fun mv nv wr => mv = .slice none 0 0 ∧ nv = .int .i64 0 ∧ wr = W) (fun _ _ _ => 0)
    case atStart => exact ⟨rfl, rfl, rfl⟩
    case round =>
      obtain ⟨rfl, rfl, hw⟩ := hrel; obtain rfl : W = wr := hw.symm
      go_wp2_with fail
      go_loopw [10] (fun nv wr => nv = .int .i64 0 ∧ wr = W) (fun _ _ => 0)
      case atStart => exact ⟨rfl, rfl⟩
      case round =>
        obtain ⟨rfl, hw⟩ := hrel; obtain rfl : W = wr := hw.symm
        go_wp2_with fail
        go_ret
        exact ⟨rfl, rfl⟩
set_option maxRecDepth 100000 in
set_option maxHeartbeats 2000000 in
theorem apartAreas_none (g : Nat) (C : Array Value) (W : World) (hB : Blk W g 67 C) (h : C[10]? = some (.slice none 0 0)) :
    Calls Tryd.prog 39 #[.pointer (some ⟨g, 0, none⟩)] W fun e w' => e = .returned (.bool true) ∧ w' = W := by
  have y : W.cell? ⟨g, 10, none⟩ = some (.slice none 0 0) := by rw [hB.cell]; exact h
  clear hB h
  go_enter Tryd.func39, Tryd.ntmps39
  go_wp2_with fail
  go_loopw [3] (fun nv wr => nv = .int .i64 0 ∧ wr = W) (fun _ _ => 0)
  case atStart => exact ⟨rfl, rfl⟩
  case round =>
    obtain ⟨rfl, hw⟩ := hrel; obtain rfl : W = wr := hw.symm
    go_wp2_with fail
    go_loopw [6, 7] (fun mv nv wr => mv = .slice none 0 0 ∧ nv = .int .i64 0 ∧ wr = W) (fun _ _ _ => 0)
    case atStart => exact ⟨rfl, rfl, rfl⟩
    case round =>
      obtain ⟨rfl, rfl, hw⟩ := hrel; obtain rfl : W = wr := hw.symm
      go_wp2_with fail
      go_loopw [10] (fun nv wr => nv = .int .i64 0 ∧ wr = W) (fun _ _ => 0)
      case atStart => exact ⟨rfl, rfl⟩
      case round =>
        obtain ⟨rfl, hw⟩ := hrel; obtain rfl : W = wr := hw.symm
        go_wp2_with fail
        go_ret
        exact ⟨rfl, rfl⟩
set_option maxRecDepth 100000 in
set_option maxHeartbeats 2000000 in
theorem apartRanges_none (g : Nat) (C : Array Value) (W : World) (hB : Blk W g 67 C) (h : C[11]? = some (.slice none 0 0)) :
    Calls Tryd.prog 40 #[.pointer (some ⟨g, 0, none⟩)] W fun e w' => e = .returned (.bool true) ∧ w' = W := by
  have y : W.cell? ⟨g, 11, none⟩ = some (.slice none 0 0) := by rw [hB.cell]; exact h
  clear hB h
  go_enter Tryd.func40, Tryd.ntmps40
  go_wp2_with fail
  go_loopw [3] (fun nv wr => nv = .int .i64 0 ∧ wr = W) (fun _ _ => 0)
  case atStart => exact ⟨rfl, rfl⟩
  case round =>
    obtain ⟨rfl, hw⟩ := hrel; obtain rfl : W = wr := hw.symm
    go_wp2_with fail
    go_loopw [6, 7] (fun mv nv wr => mv = .slice none 0 0 ∧ nv = .int .i64 0 ∧ wr = W) (fun _ _ _ => 0)
    case atStart => exact ⟨rfl, rfl, rfl⟩
    case round =>
      obtain ⟨rfl, rfl, hw⟩ := hrel; obtain rfl : W = wr := hw.symm
      go_wp2_with fail
      go_loopw [10] (fun nv wr => nv = .int .i64 0 ∧ wr = W) (fun _ _ => 0)
      case atStart => exact ⟨rfl, rfl⟩
      case round =>
        obtain ⟨rfl, hw⟩ := hrel; obtain rfl : W = wr := hw.symm
        go_wp2_with fail
        go_ret
        exact ⟨rfl, rfl⟩
set_option maxRecDepth 100000 in
set_option maxHeartbeats 2000000 in
theorem apartPeers_none (g : Nat) (C : Array Value) (W : World) (hB : Blk W g 67 C) (h : C[12]? = some (.slice none 0 0)) :
    Calls Tryd.prog 41 #[.pointer (some ⟨g, 0, none⟩)] W fun e w' => e = .returned (.bool true) ∧ w' = W := by
  have y : W.cell? ⟨g, 12, none⟩ = some (.slice none 0 0) := by rw [hB.cell]; exact h
  clear hB h
  go_enter Tryd.func41, Tryd.ntmps41
  go_wp2_with fail
  go_loopw [3] (fun nv wr => nv = .int .i64 0 ∧ wr = W) (fun _ _ => 0)
  case atStart => exact ⟨rfl, rfl⟩
  case round =>
    obtain ⟨rfl, hw⟩ := hrel; obtain rfl : W = wr := hw.symm
    go_wp2_with fail
    go_loopw [6, 7] (fun mv nv wr => mv = .slice none 0 0 ∧ nv = .int .i64 0 ∧ wr = W) (fun _ _ _ => 0)
    case atStart => exact ⟨rfl, rfl, rfl⟩
    case round =>
      obtain ⟨rfl, rfl, hw⟩ := hrel; obtain rfl : W = wr := hw.symm
      go_wp2_with fail
      go_loopw [10] (fun nv wr => nv = .int .i64 0 ∧ wr = W) (fun _ _ => 0)
      case atStart => exact ⟨rfl, rfl⟩
      case round =>
        obtain ⟨rfl, hw⟩ := hrel; obtain rfl : W = wr := hw.symm
        go_wp2_with fail
        go_ret
        exact ⟨rfl, rfl⟩
set_option maxRecDepth 100000 in
set_option maxHeartbeats 2000000 in
theorem apartOuters_none (g : Nat) (C : Array Value) (W : World) (hB : Blk W g 67 C) (h : C[13]? = some (.slice none 0 0)) :
    Calls Tryd.prog 42 #[.pointer (some ⟨g, 0, none⟩)] W fun e w' => e = .returned (.bool true) ∧ w' = W := by
  have y : W.cell? ⟨g, 13, none⟩ = some (.slice none 0 0) := by rw [hB.cell]; exact h
  clear hB h
  go_enter Tryd.func42, Tryd.ntmps42
  go_wp2_with fail
  go_loopw [3] (fun nv wr => nv = .int .i64 0 ∧ wr = W) (fun _ _ => 0)
  case atStart => exact ⟨rfl, rfl⟩
  case round =>
    obtain ⟨rfl, hw⟩ := hrel; obtain rfl : W = wr := hw.symm
    go_wp2_with fail
    go_loopw [6, 7] (fun mv nv wr => mv = .slice none 0 0 ∧ nv = .int .i64 0 ∧ wr = W) (fun _ _ _ => 0)
    case atStart => exact ⟨rfl, rfl, rfl⟩
    case round =>
      obtain ⟨rfl, rfl, hw⟩ := hrel; obtain rfl : W = wr := hw.symm
      go_wp2_with fail
      go_loopw [10] (fun nv wr => nv = .int .i64 0 ∧ wr = W) (fun _ _ => 0)
      case atStart => exact ⟨rfl, rfl⟩
      case round =>
        obtain ⟨rfl, hw⟩ := hrel; obtain rfl : W = wr := hw.symm
        go_wp2_with fail
        go_ret
        exact ⟨rfl, rfl⟩
set_option maxRecDepth 100000 in
set_option maxHeartbeats 2000000 in
theorem apartStates_none (g : Nat) (C : Array Value) (W : World) (hB : Blk W g 67 C) (h : C[14]? = some (.slice none 0 0)) :
    Calls Tryd.prog 43 #[.pointer (some ⟨g, 0, none⟩)] W fun e w' => e = .returned (.bool true) ∧ w' = W := by
  have y : W.cell? ⟨g, 14, none⟩ = some (.slice none 0 0) := by rw [hB.cell]; exact h
  clear hB h
  go_enter Tryd.func43, Tryd.ntmps43
  go_wp2_with fail
  go_loopw [3] (fun nv wr => nv = .int .i64 0 ∧ wr = W) (fun _ _ => 0)
  case atStart => exact ⟨rfl, rfl⟩
  case round =>
    obtain ⟨rfl, hw⟩ := hrel; obtain rfl : W = wr := hw.symm
    go_wp2_with fail
    go_loopw [6, 7] (fun mv nv wr => mv = .slice none 0 0 ∧ nv = .int .i64 0 ∧ wr = W) (fun _ _ _ => 0)
    case atStart => exact ⟨rfl, rfl, rfl⟩
    case round =>
      obtain ⟨rfl, rfl, hw⟩ := hrel; obtain rfl : W = wr := hw.symm
      go_wp2_with fail
      go_loopw [10] (fun nv wr => nv = .int .i64 0 ∧ wr = W) (fun _ _ => 0)
      case atStart => exact ⟨rfl, rfl⟩
      case round =>
        obtain ⟨rfl, hw⟩ := hrel; obtain rfl : W = wr := hw.symm
        go_wp2_with fail
        go_ret
        exact ⟨rfl, rfl⟩
set_option maxRecDepth 100000 in
set_option maxHeartbeats 2000000 in
theorem apartAuthKeys_none (g : Nat) (C : Array Value) (W : World) (hB : Blk W g 67 C) (h : C[15]? = some (.slice none 0 0)) :
    Calls Tryd.prog 44 #[.pointer (some ⟨g, 0, none⟩)] W fun e w' => e = .returned (.bool true) ∧ w' = W := by
  have y : W.cell? ⟨g, 15, none⟩ = some (.slice none 0 0) := by rw [hB.cell]; exact h
  clear hB h
  go_enter Tryd.func44, Tryd.ntmps44
  go_wp2_with fail
  go_loopw [3] (fun nv wr => nv = .int .i64 0 ∧ wr = W) (fun _ _ => 0)
  case atStart => exact ⟨rfl, rfl⟩
  case round =>
    obtain ⟨rfl, hw⟩ := hrel; obtain rfl : W = wr := hw.symm
    go_wp2_with fail
    go_loopw [6, 7] (fun mv nv wr => mv = .slice none 0 0 ∧ nv = .int .i64 0 ∧ wr = W) (fun _ _ _ => 0)
    case atStart => exact ⟨rfl, rfl, rfl⟩
    case round =>
      obtain ⟨rfl, rfl, hw⟩ := hrel; obtain rfl : W = wr := hw.symm
      go_wp2_with fail
      go_loopw [10] (fun nv wr => nv = .int .i64 0 ∧ wr = W) (fun _ _ => 0)
      case atStart => exact ⟨rfl, rfl⟩
      case round =>
        obtain ⟨rfl, hw⟩ := hrel; obtain rfl : W = wr := hw.symm
        go_wp2_with fail
        go_ret
        exact ⟨rfl, rfl⟩
set_option maxRecDepth 100000 in
set_option maxHeartbeats 2000000 in
theorem apartIfaces_none (g : Nat) (C : Array Value) (W : World) (hB : Blk W g 67 C) (h : C[16]? = some (.slice none 0 0)) :
    Calls Tryd.prog 45 #[.pointer (some ⟨g, 0, none⟩)] W fun e w' => e = .returned (.bool true) ∧ w' = W := by
  have y : W.cell? ⟨g, 16, none⟩ = some (.slice none 0 0) := by rw [hB.cell]; exact h
  clear hB h
  go_enter Tryd.func45, Tryd.ntmps45
  go_wp2_with fail
  go_loopw [3] (fun nv wr => nv = .int .i64 0 ∧ wr = W) (fun _ _ => 0)
  case atStart => exact ⟨rfl, rfl⟩
  case round =>
    obtain ⟨rfl, hw⟩ := hrel; obtain rfl : W = wr := hw.symm
    go_wp2_with fail
    go_loopw [6, 7] (fun mv nv wr => mv = .slice none 0 0 ∧ nv = .int .i64 0 ∧ wr = W) (fun _ _ _ => 0)
    case atStart => exact ⟨rfl, rfl, rfl⟩
    case round =>
      obtain ⟨rfl, rfl, hw⟩ := hrel; obtain rfl : W = wr := hw.symm
      go_wp2_with fail
      go_loopw [10] (fun nv wr => nv = .int .i64 0 ∧ wr = W) (fun _ _ => 0)
      case atStart => exact ⟨rfl, rfl⟩
      case round =>
        obtain ⟨rfl, hw⟩ := hrel; obtain rfl : W = wr := hw.symm
        go_wp2_with fail
        go_ret
        exact ⟨rfl, rfl⟩
set_option maxRecDepth 100000 in
set_option maxHeartbeats 2000000 in
theorem apartVirtuals_none (g : Nat) (C : Array Value) (W : World) (hB : Blk W g 67 C) (h : C[17]? = some (.slice none 0 0)) :
    Calls Tryd.prog 46 #[.pointer (some ⟨g, 0, none⟩)] W fun e w' => e = .returned (.bool true) ∧ w' = W := by
  have y : W.cell? ⟨g, 17, none⟩ = some (.slice none 0 0) := by rw [hB.cell]; exact h
  clear hB h
  go_enter Tryd.func46, Tryd.ntmps46
  go_wp2_with fail
  go_loopw [3] (fun nv wr => nv = .int .i64 0 ∧ wr = W) (fun _ _ => 0)
  case atStart => exact ⟨rfl, rfl⟩
  case round =>
    obtain ⟨rfl, hw⟩ := hrel; obtain rfl : W = wr := hw.symm
    go_wp2_with fail
    go_loopw [6, 7] (fun mv nv wr => mv = .slice none 0 0 ∧ nv = .int .i64 0 ∧ wr = W) (fun _ _ _ => 0)
    case atStart => exact ⟨rfl, rfl, rfl⟩
    case round =>
      obtain ⟨rfl, rfl, hw⟩ := hrel; obtain rfl : W = wr := hw.symm
      go_wp2_with fail
      go_loopw [10] (fun nv wr => nv = .int .i64 0 ∧ wr = W) (fun _ _ => 0)
      case atStart => exact ⟨rfl, rfl⟩
      case round =>
        obtain ⟨rfl, hw⟩ := hrel; obtain rfl : W = wr := hw.symm
        go_wp2_with fail
        go_ret
        exact ⟨rfl, rfl⟩
set_option maxRecDepth 100000 in
set_option maxHeartbeats 2000000 in
theorem apartOpaques_none (g : Nat) (C : Array Value) (W : World) (hB : Blk W g 67 C) (h : C[18]? = some (.slice none 0 0)) :
    Calls Tryd.prog 47 #[.pointer (some ⟨g, 0, none⟩)] W fun e w' => e = .returned (.bool true) ∧ w' = W := by
  have y : W.cell? ⟨g, 18, none⟩ = some (.slice none 0 0) := by rw [hB.cell]; exact h
  clear hB h
  go_enter Tryd.func47, Tryd.ntmps47
  go_wp2_with fail
  go_loopw [3] (fun nv wr => nv = .int .i64 0 ∧ wr = W) (fun _ _ => 0)
  case atStart => exact ⟨rfl, rfl⟩
  case round =>
    obtain ⟨rfl, hw⟩ := hrel; obtain rfl : W = wr := hw.symm
    go_wp2_with fail
    go_loopw [6, 7] (fun mv nv wr => mv = .slice none 0 0 ∧ nv = .int .i64 0 ∧ wr = W) (fun _ _ _ => 0)
    case atStart => exact ⟨rfl, rfl, rfl⟩
    case round =>
      obtain ⟨rfl, rfl, hw⟩ := hrel; obtain rfl : W = wr := hw.symm
      go_wp2_with fail
      go_loopw [10] (fun nv wr => nv = .int .i64 0 ∧ wr = W) (fun _ _ => 0)
      case atStart => exact ⟨rfl, rfl⟩
      case round =>
        obtain ⟨rfl, hw⟩ := hrel; obtain rfl : W = wr := hw.symm
        go_wp2_with fail
        go_ret
        exact ⟨rfl, rfl⟩
set_option maxRecDepth 100000 in
set_option maxHeartbeats 4000000 in
theorem apart_any (W0 : World) (base g : Nat) (G : Sl) (L : List Sl) (X0 : Nat → List Int) (hB : BagB W0 base g (bagC G) G L) (hR : Rows8 W0 base L X0) (hbase : base ≤ W0.heap.size) :
    Calls Tryd.prog 19 #[.pointer (some ⟨g, 0, none⟩)] W0 fun e w' => e = .returned (.bool true) ∧ Below base W0 w' := by
  have HC := Lib.hid (apartBytes_any W0 base g (bagC G) G L X0 hB hR hbase)
  clear hB hR hbase
  go_enter Tryd.func19, Tryd.ntmps19
  go_wp2_with fail
  refine HC.out.mono ?_
  clear HC
  rintro e w1 ⟨rfl, hbl, hbk⟩
  have HBl := Lib.hid hbl
  have HBk := Lib.hid hbk
  clear hbl hbk
  go_wp2_with fail
  refine (apartInts_none g _ w1 HBk.out rfl).mono ?_
  rintro e w2 ⟨rfl, hw⟩
  obtain rfl : w1 = w2 := hw.symm
  clear hw
  go_wp2_with fail
  refine (apartBools_none g _ w1 HBk.out rfl).mono ?_
  rintro e w2 ⟨rfl, hw⟩
  obtain rfl : w1 = w2 := hw.symm
  clear hw
  go_wp2_with fail
  refine (apartTexts_none g _ w1 HBk.out rfl).mono ?_
  rintro e w2 ⟨rfl, hw⟩
  obtain rfl : w1 = w2 := hw.symm
  clear hw
  go_wp2_with fail
  refine (apartLongs_none g _ w1 HBk.out rfl).mono ?_
  rintro e w2 ⟨rfl, hw⟩
  obtain rfl : w1 = w2 := hw.symm
  clear hw
  go_wp2_with fail
  refine (apartWords_none g _ w1 HBk.out rfl).mono ?_
  rintro e w2 ⟨rfl, hw⟩
  obtain rfl : w1 = w2 := hw.symm
  clear hw
  go_wp2_with fail
  refine (apartPrefixes_none g _ w1 HBk.out rfl).mono ?_
  rintro e w2 ⟨rfl, hw⟩
  obtain rfl : w1 = w2 := hw.symm
  clear hw
  go_wp2_with fail
  refine (apartHeads_none g _ w1 HBk.out rfl).mono ?_
  rintro e w2 ⟨rfl, hw⟩
  obtain rfl : w1 = w2 := hw.symm
  clear hw
  go_wp2_with fail
  refine (apartKeys_none g _ w1 HBk.out rfl).mono ?_
  rintro e w2 ⟨rfl, hw⟩
  obtain rfl : w1 = w2 := hw.symm
  clear hw
  go_wp2_with fail
  refine (apartLinks_none g _ w1 HBk.out rfl).mono ?_
  rintro e w2 ⟨rfl, hw⟩
  obtain rfl : w1 = w2 := hw.symm
  clear hw
  go_wp2_with fail
  refine (apartAreas_none g _ w1 HBk.out rfl).mono ?_
  rintro e w2 ⟨rfl, hw⟩
  obtain rfl : w1 = w2 := hw.symm
  clear hw
  go_wp2_with fail
  refine (apartRanges_none g _ w1 HBk.out rfl).mono ?_
  rintro e w2 ⟨rfl, hw⟩
  obtain rfl : w1 = w2 := hw.symm
  clear hw
  go_wp2_with fail
  refine (apartPeers_none g _ w1 HBk.out rfl).mono ?_
  rintro e w2 ⟨rfl, hw⟩
  obtain rfl : w1 = w2 := hw.symm
  clear hw
  go_wp2_with fail
  refine (apartOuters_none g _ w1 HBk.out rfl).mono ?_
  rintro e w2 ⟨rfl, hw⟩
  obtain rfl : w1 = w2 := hw.symm
  clear hw
  go_wp2_with fail
  refine (apartStates_none g _ w1 HBk.out rfl).mono ?_
  rintro e w2 ⟨rfl, hw⟩
  obtain rfl : w1 = w2 := hw.symm
  clear hw
  go_wp2_with fail
  refine (apartAuthKeys_none g _ w1 HBk.out rfl).mono ?_
  rintro e w2 ⟨rfl, hw⟩
  obtain rfl : w1 = w2 := hw.symm
  clear hw
  go_wp2_with fail
  refine (apartIfaces_none g _ w1 HBk.out rfl).mono ?_
  rintro e w2 ⟨rfl, hw⟩
  obtain rfl : w1 = w2 := hw.symm
  clear hw
  go_wp2_with fail
  refine (apartVirtuals_none g _ w1 HBk.out rfl).mono ?_
  rintro e w2 ⟨rfl, hw⟩
  obtain rfl : w1 = w2 := hw.symm
  clear hw
  go_wp2_with fail
  refine (apartOpaques_none g _ w1 HBk.out rfl).mono ?_
  rintro e w2 ⟨rfl, hw⟩
  obtain rfl : w1 = w2 := hw.symm
  clear hw
  go_wp2_with fail
  go_ret
  exact ⟨rfl, HBl.out⟩
end Go.Proofs.YtlnkjmjddecjdaaDoor
