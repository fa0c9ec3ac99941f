/-
  What PacketBack asks of what was decoded: it can be read, and copied; allOnes.
-/
import Derived.Test.YtbkejlalbjomkaaPk34
namespace Go.Proofs.Ytbkejlalbjomkaa
set_option linter.unusedVariables false
open Go.RowKit

theorem be1 {ys : List Int} (ho : Oct ys) (p : Nat) : 0 ≤ be ((ys.drop p).take 1) ∧ be ((ys.drop p).take 1) ≤ 255 := by
  have := be_at ho p 1
  rw [show (256 : Int) ^ 1 = 256 from by decide] at this
  omega
theorem be2 {ys : List Int} (ho : Oct ys) (p : Nat) : 0 ≤ be ((ys.drop p).take 2) ∧ be ((ys.drop p).take 2) ≤ 65535 := by
  have := be_at ho p 2
  rw [show (256 : Int) ^ 2 = 65536 from by decide] at this
  omega
theorem be4 {ys : List Int} (ho : Oct ys) (p : Nat) : 0 ≤ be ((ys.drop p).take 4) ∧ be ((ys.drop p).take 4) ≤ 4294967295 := by
  have := be_at ho p 4
  rw [show (256 : Int) ^ 4 = 4294967296 from by decide] at this
  omega
theorem PIs.rng {ys : List Int} {t r a : Int} {p : PA} (ho : Oct ys) (hk : partOk ys t) (h : PIs ys t r a p) (h1 : 0 ≤ t ∧ t ≤ 255) (h2 : 0 ≤ r ∧ r ≤ 4294967295) (h3 : 0 ≤ a ∧ a ≤ 4294967295) : p.rng := by
  have hh : ∀ pos n, ∀ x ∈ hdsAt ys pos n, x.ok := fun pos n x hx => by
    unfold hdsAt at hx
    obtain ⟨i, _, rfl⟩ := List.mem_map.1 hx
    exact hdAt_ok ho _
  rcases h with ⟨rfl, e⟩ | ⟨rfl, e⟩ | ⟨rfl, e⟩ | ⟨rfl, hu, hl, e⟩ | ⟨rfl, e⟩ <;> rw [e]
  · exact ⟨h1, h2, h3, be4 ho _, be2 ho _, be1 ho _, be1 ho _, be4 ho _, be4 ho _, be4 ho _, (show (0 : Int) ≤ 0 ∧ (0 : Int) ≤ _ by decide), (show (0 : Int) ≤ 0 ∧ (0 : Int) ≤ _ by decide), (show (0 : Int) ≤ 0 ∧ (0 : Int) ≤ _ by decide), (show (0 : Int) ≤ 0 ∧ (0 : Int) ≤ _ by decide), fun x hx => by
      obtain ⟨i, _, rfl⟩ := List.mem_map.1 (show x ∈ (List.range _).map _ from hx)
      exact be4 ho _, (fun x hx => by simp [p0] at hx), (fun x hx => by simp [p0] at hx), (fun x hx => by simp [p0] at hx)⟩
  · exact ⟨h1, h2, h3, (show (0 : Int) ≤ 0 ∧ (0 : Int) ≤ _ by decide), (show (0 : Int) ≤ 0 ∧ (0 : Int) ≤ _ by decide), (show (0 : Int) ≤ 0 ∧ (0 : Int) ≤ _ by decide), (show (0 : Int) ≤ 0 ∧ (0 : Int) ≤ _ by decide), (show (0 : Int) ≤ 0 ∧ (0 : Int) ≤ _ by decide), (show (0 : Int) ≤ 0 ∧ (0 : Int) ≤ _ by decide), (show (0 : Int) ≤ 0 ∧ (0 : Int) ≤ _ by decide), be2 ho _, be1 ho _, be1 ho _, be4 ho _, (fun x hx => by simp [p0] at hx), hh _ _, (fun x hx => by simp [p0] at hx), (fun x hx => by simp [p0] at hx)⟩
  · exact ⟨h1, h2, h3, (show (0 : Int) ≤ 0 ∧ (0 : Int) ≤ _ by decide), (show (0 : Int) ≤ 0 ∧ (0 : Int) ≤ _ by decide), (show (0 : Int) ≤ 0 ∧ (0 : Int) ≤ _ by decide), (show (0 : Int) ≤ 0 ∧ (0 : Int) ≤ _ by decide), (show (0 : Int) ≤ 0 ∧ (0 : Int) ≤ _ by decide), (show (0 : Int) ≤ 0 ∧ (0 : Int) ≤ _ by decide), (show (0 : Int) ≤ 0 ∧ (0 : Int) ≤ _ by decide), (show (0 : Int) ≤ 0 ∧ (0 : Int) ≤ _ by decide), (show (0 : Int) ≤ 0 ∧ (0 : Int) ≤ _ by decide), (show (0 : Int) ≤ 0 ∧ (0 : Int) ≤ _ by decide), (show (0 : Int) ≤ 0 ∧ (0 : Int) ≤ _ by decide), (fun x hx => by simp [p0] at hx), (fun x hx => by simp [p0] at hx), fun x hx => by
      have ht := (hk.h3 rfl).2 x hx
      obtain ⟨i, _, rfl⟩ := List.mem_map.1 (show x ∈ (List.range _).map _ from hx)
      exact ⟨⟨(be4 ho _).1, ht⟩, be4 ho _, be4 ho _⟩, (fun x hx => by simp [p0] at hx)⟩
  · exact ⟨h1, h2, h3, (show (0 : Int) ≤ 0 ∧ (0 : Int) ≤ _ by decide), (show (0 : Int) ≤ 0 ∧ (0 : Int) ≤ _ by decide), (show (0 : Int) ≤ 0 ∧ (0 : Int) ≤ _ by decide), (show (0 : Int) ≤ 0 ∧ (0 : Int) ≤ _ by decide), (show (0 : Int) ≤ 0 ∧ (0 : Int) ≤ _ by decide), (show (0 : Int) ≤ 0 ∧ (0 : Int) ≤ _ by decide), (show (0 : Int) ≤ 0 ∧ (0 : Int) ≤ _ by decide), (show (0 : Int) ≤ 0 ∧ (0 : Int) ≤ _ by decide), (show (0 : Int) ≤ 0 ∧ (0 : Int) ≤ _ by decide), (show (0 : Int) ≤ 0 ∧ (0 : Int) ≤ _ by decide), (show (0 : Int) ≤ 0 ∧ (0 : Int) ≤ _ by decide), (fun x hx => by simp [p0] at hx), (fun x hx => by simp [p0] at hx), (fun x hx => by simp [p0] at hx), (fun x hx => by simp [p0] at hx)⟩
  · exact ⟨h1, h2, h3, (show (0 : Int) ≤ 0 ∧ (0 : Int) ≤ _ by decide), (show (0 : Int) ≤ 0 ∧ (0 : Int) ≤ _ by decide), (show (0 : Int) ≤ 0 ∧ (0 : Int) ≤ _ by decide), (show (0 : Int) ≤ 0 ∧ (0 : Int) ≤ _ by decide), (show (0 : Int) ≤ 0 ∧ (0 : Int) ≤ _ by decide), (show (0 : Int) ≤ 0 ∧ (0 : Int) ≤ _ by decide), (show (0 : Int) ≤ 0 ∧ (0 : Int) ≤ _ by decide), (show (0 : Int) ≤ 0 ∧ (0 : Int) ≤ _ by decide), (show (0 : Int) ≤ 0 ∧ (0 : Int) ≤ _ by decide), (show (0 : Int) ≤ 0 ∧ (0 : Int) ≤ _ by decide), (show (0 : Int) ≤ 0 ∧ (0 : Int) ≤ _ by decide), (fun x hx => by simp [p0] at hx), (fun x hx => by simp [p0] at hx), (fun x hx => by simp [p0] at hx), hh _ _⟩
theorem hb_sum : ∀ L : List (Hd × List Int), 20 * L.length ≤ (L.flatMap hbB).length ∧ ∀ x ∈ L, x.2.length ≤ (L.flatMap hbB).length
  | [] => ⟨by simp, fun x hx => by simp at hx⟩
  | x :: L => by
    obtain ⟨h1, h2⟩ := hb_sum L
    have e : ((x :: L).flatMap hbB).length = 20 + x.2.length + (L.flatMap hbB).length := by
      rw [List.flatMap_cons, List.length_append]
      show (hdB x.1 ++ x.2).length + _ = _
      rw [List.length_append, hdB_len20]
    rw [e, List.length_cons]
    refine ⟨by omega, fun y hy => ?_⟩
    rcases List.mem_cons.1 hy with rfl | hy
    · omega
    · have := h2 y hy
      omega
theorem PIs.few {ys : List Int} {t r a : Int} {p : PA} (ho : Oct ys) (h : PIs ys t r a p) (hl : ys.length ≤ 65536) (hn : ∀ s ∈ p.ss, s.B.length = s.n) : p.few := by
  rcases h with ⟨rfl, e⟩ | ⟨rfl, e⟩ | ⟨rfl, e⟩ | ⟨rfl, hu, hs, e⟩ | ⟨rfl, e⟩
  · rw [e]
    exact ⟨show (ys.length - (24 + 20)) / 4 ≤ 262144 by omega, (Nat.zero_le _), (Nat.zero_le _), (Nat.zero_le _), (Nat.zero_le _), (fun x hx => by simp [p0] at hx)⟩
  · rw [e]
    exact ⟨(Nat.zero_le _), show (ys.length - (24 + 8)) / 20 ≤ 262144 by omega, (Nat.zero_le _), (Nat.zero_le _), (Nat.zero_le _), (fun x hx => by simp [p0] at hx)⟩
  · rw [e]
    exact ⟨(Nat.zero_le _), (Nat.zero_le _), show (ys.length - 24) / 12 ≤ 262144 by omega, (Nat.zero_le _), (Nat.zero_le _), (fun x hx => by simp [p0] at hx)⟩
  · obtain ⟨i1, i2, i3⟩ := upS_some _ _ _ (ho.drop _) hu
    obtain ⟨s1, s2⟩ := hb_sum (p.ss.map SE.hb)
    rw [i2, List.length_drop, List.length_map, hs] at s1
    have hN : p.nn = 0 := congrArg PA.nn e
    have hD : p.dn = 0 := congrArg PA.dn e
    have hK : p.kn = 0 := congrArg PA.kn e
    have hH : p.hn = 0 := congrArg PA.hn e
    refine ⟨by omega, by omega, by omega, by omega, by omega, fun s hm => ?_⟩
    have := s2 s.hb (List.mem_map.2 ⟨s, hm, rfl⟩)
    rw [i2, List.length_drop] at this
    have e2 := hn s hm
    have e3 : s.hb.2 = s.B := rfl
    rw [e3] at this
    omega
  · rw [e]
    exact ⟨(Nat.zero_le _), (Nat.zero_le _), (Nat.zero_le _), (Nat.zero_le _), show (ys.length - 24) / 20 ≤ 262144 by omega, (fun x hx => by simp [p0] at hx)⟩
theorem SameP.part {p q : PA} (h : SameP p q) : partB q = partB p := by
  have hs : statesB q.ss = statesB p.ss := by
    have := congrArg (List.map fun c : Hd × Nat × List Int => (c.1, c.2.2)) h.st
    rw [List.map_map, List.map_map] at this
    rw [statesB_hb, statesB_hb]
    exact congrArg (fun L => L.flatMap hbB) this
  have e1 : helloB q = helloB p := by rw [h.eq]; rfl
  have e2 : descB q = descB p := by rw [h.eq]; rfl
  have e3 : q.ks = p.ks := (congrArg PA.ks h.eq).trans rfl
  have e4 : q.hs = p.hs := (congrArg PA.hs h.eq).trans rfl
  have e5 : q.typ = p.typ := (congrArg PA.typ h.eq).trans rfl
  have e6 : q.sn = p.sn := (congrArg PA.sn h.eq).trans rfl
  unfold partB updB
  rw [e1, e2, e3, e4, e5, e6, hs]
theorem SameP.enc {p q : PA} {a : Au} (h : SameP p q) (e : EncOk p a) : EncOk q a ∧ encB q a = encB p a ∧ encL q a = encL p a := by
  have hp := h.part
  have t1 : q.typ = p.typ := (congrArg PA.typ h.eq).trans rfl
  have t2 : q.router = p.router := (congrArg PA.router h.eq).trans rfl
  have t3 : q.area = p.area := (congrArg PA.area h.eq).trans rfl
  have hL : encL q a = encL p a := by rw [encL_part, encL_part, hp]
  refine ⟨⟨by rw [t1]; exact e.typ, ?_, ?_, e.kind, by rw [hL]; exact e.len⟩, encB_congr a t1 t2 t3 hp, hL⟩
  · have al := e.alone
    rw [h.eq]
    exact al
  · intro s hs
    have h1 : s.con ∈ q.ss.map SE.con := List.mem_map.2 ⟨s, hs, rfl⟩
    rw [h.st] at h1
    obtain ⟨u, hu, ec⟩ := List.mem_map.1 h1
    have := e.lens u hu
    unfold SE.con at ec
    injection ec with e1 e2
    injection e2 with e2 e3
    rw [← e1, ← e2]
    exact this
set_option maxHeartbeats 1000000 in
theorem ones_any (A : Option Addr) (n c i : Nat) (xs : List Int) (w : World) (B : Nat) (hx : Reads w B 1 A n (u8s xs)) (hn : 24 ≤ n) (hc : n ≤ c) (hm : c ≤ 9223372036854775807) (hi : i = 12 ∨ i = 13) (h1 : xs[12]? = some 255) (h2 : xs[13]? = some 255) :
    Calls Try.prog 20 #[.slice A n c, .int .i64 i] w fun e w' => e = .returned (.bool true) ∧ ∃ k, w' = w.drewN k := by
  obtain ⟨ad, x, rfl, _, hx0, h12⟩ := hx.u8atc (k := 12) (by omega) (by omega)
  obtain ⟨ad2, y, e1, _, hy0, h13⟩ := hx.u8atc (k := 13) (by omega) (by omega)
  obtain rfl : ad = ad2 := by injection e1
  obtain rfl : x = 255 := by have := hx0.out; rw [h1] at this; exact (Option.some.inj this).symm
  obtain rfl : y = 255 := by have := hy0.out; rw [h2] at this; exact (Option.some.inj this).symm
  clear hx hx0 hy0 h1 h2 e1
  rcases hi with rfl | rfl
  · go_enter Try.func20, Try.ntmps20
    go_wp2
    go_ret
    exact ⟨rfl, 0, rfl⟩
  · go_enter Try.func20, Try.ntmps20
    go_wp2
    go_ret
    exact ⟨rfl, 0, rfl⟩
end Go.Proofs.Ytbkejlalbjomkaa
