/-
  Layer 42: the walk of Pair, and of the law InferPairs.
-/
import Derived.Test.YtckffdaomjbglaaDoorIn
import Derived.Test.YtckffdaomjbglaaDoorJc
import Derived.Handy
namespace Go.Proofs.YtckffdaomjbglaaDoor
open Go.RowKit Go.Sort Go.BigFrame
set_option linter.unusedVariables false

theorem plain_names {ms : List Mod} (h : plainF ms = 0) : ∀ x ∈ ms.map Mod.name, brkB x = !plainC x := by
  intro x hx
  rcases (plain_parts h).2.2 x hx with hp | rfl | rfl
  · rw [hp]
    unfold plainC at hp
    simp only [Bool.and_eq_true, bne_iff_ne] at hp
    unfold brkB
    simp [hp.1.2, hp.2]
  · unfold brkB plainC; simp
  · unfold brkB plainC; simp
set_option maxRecDepth 100000 in
set_option maxHeartbeats 1000000 in
theorem pair_calls (A : Option Addr) (c : Nat) (ms : List Mod) (w : World) (h : SlAt pMod (Old w) w A c ms) (hl : ms.length ≤ 100000) : Calls Tryd.prog 15 #[.slice A ms.length c] w (PairP ms w) := by
  have hmx := h.lenle
  have hck := plainW_calls A c ms w h
  have H := Lib.hid h; clear h
  have Hck := Lib.hid hck; clear hck
  go_enter Tryd.func15, Tryd.ntmps15
  go_wp2_with fail
  refine Hck.out.mono ?_
  rintro e w1 ⟨rfl, hb1⟩
  have hz1 := hb1.size
  by_cases hf : plainF ms = 0
  case neg =>
    have e0 : (plainF ms != 0) = true := by simp [hf]
    have Hb1 := Lib.hid hb1; clear hb1
    have Hf := Lib.hid hf; clear hf
    go_wp2
    go_returns
    exact ⟨0, 0, 0, plainF ms, rfl, Hb1.out, .inl ⟨Hf.out, rfl, rfl, rfl, rfl⟩⟩
  case pos =>
  have e0 : (plainF ms != 0) = false := by simp [hf]
  have hnc := names_calls A c ms w1 (H.out.later hb1) hl
  have hpn := plain_names hf
  have hln : (ms.map Mod.name).length = ms.length := List.length_map ..
  have Hb1 := Lib.hid hb1; clear hb1
  have Hf := Lib.hid hf; clear hf
  have Hnc := Lib.hid hnc; clear hnc
  have Hpn := Lib.hid hpn; clear hpn
  have Hln := Lib.hid hln; clear hln
  go_wp2_with fail
  refine Hnc.out.mono ?_
  rintro e w2 ⟨A2, c2, rfl, hown2, hb2⟩
  have hbw2 := Hb1.out.trans (hb2.mono hz1)
  have hz2 := hbw2.size
  have hbc := best_calls A2 c2 (ms.map Mod.name) w2 (names_sl hown2 (Below.refl _ _)) (by rw [Hln.out]; exact hl) Hpn.out
  rw [Hln.out] at hbc
  have Hbw2 := Lib.hid hbw2; clear hbw2
  have Hbc := Lib.hid hbc; clear hbc
  clear hown2 hb2
  go_wp2_with fail
  refine Hbc.out.mono ?_
  rintro e w3 ⟨a, b, n, rfl, hbest, hfa, hfb, hn0, hn1, hb3⟩
  have hbw3 := Hbw2.out.trans (hb3.mono hz2)
  obtain ⟨wB, hwB⟩ : ∃ W, W = w3.alloc (.cells #[.int .u8 a, .int .u8 b] 57) := ⟨_, rfl⟩
  have hbB : Below w.heap.size w wB := by rw [hwB]; exact hbw3.alloc hbw3.size _
  have e0w : wB.cell? ⟨w3.heap.size, 0, none⟩ = some (.int .u8 a) := by rw [hwB]; exact (Blk.new w3 57 #[.int .u8 a, .int .u8 b]).cell 0
  have e1w : wB.cell? ⟨w3.heap.size, 1, none⟩ = some (.int .u8 b) := by rw [hwB]; exact (Blk.new w3 57 #[.int .u8 a, .int .u8 b]).cell 1
  have Hbw3 := Lib.hid hbw3; clear hbw3
  have HwB := Lib.hid hwB; clear hwB
  have HbB := Lib.hid hbB; clear hbB
  clear hb3
  by_cases hn : n = 0
  · subst hn
    obtain ⟨ha, hb, _⟩ := hbest.out.none rfl
    subst ha hb
    go_wp2
    go_returns
    exact ⟨0, 0, 0, 6, rfl, by rw [← HwB.out]; exact HbB.out, .inr ⟨Hf.out, hbest.out, rfl⟩⟩
  · have e1 : (n == 0) = false := by simpa using hn
    have Hn := Lib.hid hn; clear hn
    go_wp2
    rw [← HwB.out]
    go_quiet (fail)
    have hb5 := HbB.out.trans (below_drewN (Below.refl _ wB) nq)
    generalize wB.drewN nq = w5 at hb5 ⊢
    have Hb5 := Lib.hid hb5; clear hb5
    go_wp2
    go_returns
    exact ⟨a, b, n, 0, rfl, Hb5.out, .inr ⟨Hf.out, hbest.out, by rw [if_neg Hn.out]⟩⟩
theorem pairP_one {ms : List Mod} {a b n r a' b' n' r' : Int} (h : (plainF ms ≠ 0 ∧ a = 0 ∧ b = 0 ∧ n = 0 ∧ r = plainF ms) ∨ (plainF ms = 0 ∧ BestOf (PairAt (ms.map Mod.name) (ms.map Mod.name).length) (fun u v => cntR u v (ms.map Mod.name)) a b n ∧ r = if n = 0 then 6 else 0))
    (h' : (plainF ms ≠ 0 ∧ a' = 0 ∧ b' = 0 ∧ n' = 0 ∧ r' = plainF ms) ∨ (plainF ms = 0 ∧ BestOf (PairAt (ms.map Mod.name) (ms.map Mod.name).length) (fun u v => cntR u v (ms.map Mod.name)) a' b' n' ∧ r' = if n' = 0 then 6 else 0)) : a = a' ∧ b = b' ∧ n = n' ∧ r = r' := by
  rcases h with ⟨h0, h1, h2, h3, h4⟩ | ⟨h0, h1, h2⟩
  · rcases h' with ⟨g0, g1, g2, g3, g4⟩ | ⟨g0, _⟩
    · exact ⟨by omega, by omega, by omega, by omega⟩
    · exact absurd g0 h0
  · rcases h' with ⟨g0, _⟩ | ⟨g0, g1, g2⟩
    · exact absurd h0 g0
    · obtain ⟨rfl, rfl, rfl⟩ := h1.one g1
      exact ⟨rfl, rfl, rfl, h2.trans g2.symm⟩
theorem own_mods {w w' : World} {e : TypeId} {B : Nat} {A : Option Addr} {n c : Nat} {xs : List Mod} (h : Own pMod e B (B ≤ ·) w (.slice A n c) xs) (hb : Below w.heap.size w w') : xs.length = n ∧ SlAt pMod (Old w') w' A c xs := by
  obtain ⟨A', c', hv, hs⟩ := (h.later hb).fresh
  injection hv with h1 h2 h3
  subst h1 h2 h3
  exact ⟨rfl, hs.wide fun q hq => hq.2⟩
end Go.Proofs.YtckffdaomjbglaaDoor
