/-
  A list of bytes that the call itself grows by append.
-/
import Derived.Test.YtbkejlalbjomkaaRefW
import Derived.Test.YtbkejlalbjomkaaBase2
namespace Go.Proofs.Ytbkejlalbjomkaa
set_option linter.unusedVariables false
open Go.RowKit

def OwnB (w0 w : World) (v : Value) (L : List Int) : Prop := w.ownsRow w0.heap.size 5 1 v L.length (u8s L) ∧ Below w0.heap.size w0 w
theorem OwnB.nil (w : World) : OwnB w w (.slice none 0 0) [] := ⟨World.ownsRow_nil _ _ _ _, Below.refl _ _⟩
theorem OwnB.form {w0 w : World} {v : Value} {L : List Int} (h : OwnB w0 w v L) (h0 : 0 < L.length) : ∃ g cap, v = .slice (some ⟨g, 0, none⟩) L.length cap := by
  obtain ⟨g, cap, hv, _⟩ := h.1.form h0
  exact ⟨g, cap, hv⟩
theorem OwnB.shape {w0 w : World} {v : Value} {L : List Int} (h : OwnB w0 w v L) : ∃ A cap, v = .slice A L.length cap := by
  rcases Nat.eq_zero_or_pos L.length with h0 | h0
  · rcases h.1.2 with ⟨hv, _⟩ | ⟨g, cap, _, hv, _⟩
    · exact ⟨none, 0, by rw [h0]; exact hv⟩
    · exact ⟨_, cap, hv⟩
  · obtain ⟨g, cap, hv⟩ := h.form h0
    exact ⟨_, cap, hv⟩
theorem OwnB.own {w0 w : World} {v : Value} {L : List Int} {n : Nat} (h : OwnB w0 w v L) (hn : L.length = n) (o : Obj) : (w.alloc o).ownsRow w0.heap.size 5 1 v n (u8s L) := by subst hn; exact h.1.alloc o
theorem OwnB.room {w0 w : World} {v : Value} {L : List Int} (h : OwnB w0 w v L) (o : Obj) : w0.heap.size ≤ (w.alloc o).heap.size := by rw [World.size_alloc]; have := h.2.size; omega
theorem OwnB.push {w0 w w2 : World} {v v2 : Value} {L : List Int} {n : Nat} {b : Int} {o : Obj} (h : OwnB w0 w v L) (hn : L.length = n) (ho : w2.ownsRow w0.heap.size 5 1 v2 (n + 1) (u8s L ++ [.int .u8 b])) (hb : Below w0.heap.size (w.alloc o) w2) : OwnB w0 w2 v2 (L ++ [b]) := by
  subst hn
  refine ⟨?_, (h.2.alloc h.2.size o).trans hb⟩
  rw [u8s_append, List.length_append]
  exact ho
theorem OwnB.app {w0 w w2 : World} {v v2 : Value} {L ys : List Int} {n m : Nat} (h : OwnB w0 w v L) (hn : L.length = n) (hm : ys.length = m) (ho : w2.ownsRow w0.heap.size 5 1 v2 (n + m) (u8s L ++ u8s ys)) (hb : Below w0.heap.size w w2) : OwnB w0 w2 v2 (L ++ ys) := by
  subst hn hm
  refine ⟨?_, h.2.trans hb⟩
  rw [u8s_append, List.length_append]
  exact ho
theorem OwnB.reads {w0 w : World} {A : Option Addr} {n c : Nat} {L : List Int} (h : OwnB w0 w (.slice A n c) L) (hn : L.length = n) : Reads w w.heap.size 1 A n (u8s L) := by
  subst hn
  exact Reads.of_own h.1
theorem OwnB.later {w0 w w' : World} {v : Value} {L : List Int} (h : OwnB w0 w v L) (hb : Below w.heap.size w w') : OwnB w0 w' v L := by
  refine ⟨?_, below_then h.2 hb⟩
  obtain ⟨hl, hh⟩ := h.1
  refine ⟨hl, ?_⟩
  rcases hh with h1 | ⟨g, cap, cur, hv, hg, hk, r⟩
  · exact .inl h1
  · have hlt : g < w.heap.size := (show Blk w g 5 cur from hk).lt
    exact .inr ⟨g, cap, cur, hv, hg, (hb.block g hlt).trans hk, r⟩
theorem one_u8 (b : Int) : ∀ u ∈ [Value.int .u8 b], u.oneCell' = true := by intro u hu; simp at hu; subst hu; rfl
end Go.Proofs.Ytbkejlalbjomkaa
