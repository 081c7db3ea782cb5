/-
  Layer 6: the walks of Join and of the reference's Join.
-/
import Derived.Test.YtmcgfhgpldfknaaDoorWf
import Derived.Test.YtmcgfhgpldfknaaDoorWg
namespace Go.Proofs.YtmcgfhgpldfknaaDoor
open Go.RowKit

theorem Own.mono {α : Type} {E : Rp α} {w : World} {e : TypeId} {base base' : Nat} {G G' : Nat → Prop} {v : Value} {xs : List α} (h : Own E e base G w v xs) (hb : base' ≤ base) (hG : ∀ k, G k → G' k) : Own E e base' G' w v xs := by
  obtain ⟨cells, ⟨h1, h2⟩, h3⟩ := h
  refine ⟨cells, ⟨h1, ?_⟩, h3.wide fun k hk => ⟨hG k hk.1, hk.2⟩⟩
  rcases h2 with h2 | ⟨g, cap, cur, hv, hg, r⟩
  · exact .inl h2
  · exact .inr ⟨g, cap, cur, hv, Nat.le_trans hb hg, r⟩

def joinRes (a b : List Mod) : List Mod × Int :=
  if checkF a = 0 then (if checkF b = 0 then (if 2000 < a.length + b.length then ([], 4) else (a ++ b, 0)) else ([], checkF b)) else ([], checkF a)
theorem joinRes_a {a b : List Mod} (h : ¬ checkF a = 0) : joinRes a b = ([], checkF a) := by unfold joinRes; rw [if_neg h]
theorem joinRes_b {a b : List Mod} (h : checkF a = 0) (h' : ¬ checkF b = 0) : joinRes a b = ([], checkF b) := by unfold joinRes; rw [if_pos h, if_neg h']
theorem joinRes_many {a b : List Mod} (h : checkF a = 0) (h' : checkF b = 0) (hb : 2000 < a.length + b.length) : joinRes a b = ([], 4) := by unfold joinRes; rw [if_pos h, if_pos h', if_pos hb]
theorem joinRes_ok {a b : List Mod} (h : checkF a = 0) (h' : checkF b = 0) (hb : ¬ 2000 < a.length + b.length) : joinRes a b = (a ++ b, 0) := by unfold joinRes; rw [if_pos h, if_pos h', if_neg hb]

def JoinPost (E : Rp Mod) (xs ys : List Mod) (w : World) (e : Ending) (w' : World) : Prop :=
  ∃ A c, e = .returned (.tuple #[.slice A (joinRes xs ys).1.length c, .int .i64 (joinRes xs ys).2]) ∧ Own E 44 w.heap.size (w.heap.size ≤ ·) w' (.slice A (joinRes xs ys).1.length c) (joinRes xs ys).1 ∧ Below w.heap.size w w'

set_option maxRecDepth 100000 in
set_option maxHeartbeats 1000000 in
theorem join_calls (A B : Option Addr) (c c' : Nat) (xs ys : List Mod) (w : World) (h : SlAt pMod (Old w) w A c xs) (h' : SlAt pMod (Old w) w B c' ys) (hbx : xs.length ≤ 10000) (hby : ys.length ≤ 10000) (hx : ∀ m ∈ xs, m.args.length ≤ 1000) (hy : ∀ m ∈ ys, m.args.length ≤ 1000) :
    Calls Tryd.prog 15 #[.slice A xs.length c, .slice B ys.length c'] w (JoinPost pModF xs ys w) := by
  have hmx := h.lenle
  have hmy := h'.lenle
  have H := Lib.hid h; clear h
  have H' := Lib.hid h'; clear h'
  have HX := Lib.hid hx; clear hx
  have HY := Lib.hid hy; clear hy
  go_enter Tryd.func15, Tryd.ntmps15
  go_wp2_with fail
  refine (wordCheck_calls A c xs w H.out).mono ?_
  rintro e w1 ⟨rfl, hb1⟩
  have H1 := Lib.hid (H.out.later hb1)
  have H1' := Lib.hid (H'.out.later hb1)
  have hs1 := hb1.size
  have Hb1 := Lib.hid hb1; clear hb1
  by_cases hc : checkF xs = 0
  · have e1 : (checkF xs != 0) = false := by simp [hc]
    have Hc := Lib.hid hc; clear hc
    go_wp2_with fail
    refine (wordCheck_calls B c' ys w1 H1'.out).mono ?_
    rintro e w2 ⟨rfl, hb2⟩
    have H2 := Lib.hid (H1.out.later hb2)
    have H2' := Lib.hid (H1'.out.later hb2)
    have hs2 := hb2.size
    have Hb2 := Lib.hid (Hb1.out.trans (hb2.mono hs1)); clear hb2
    have hs2' := Hb2.out.size
    by_cases hd : checkF ys = 0
    · have e2 : (checkF ys != 0) = false := by simp [hd]
      have Hd := Lib.hid hd; clear hd
      by_cases hbig : 2000 < xs.length + ys.length
      · have hbigI : (2000 : Int) < (xs.length : Int) + (ys.length : Int) := by omega
        go_wp2
        go_ret2
        exact ⟨none, 0, by rw [joinRes_many Hc.out Hd.out hbig]; rfl, by rw [joinRes_many Hc.out Hd.out hbig]; exact Own.nil, Hb2.out⟩
      · have hbigI : ¬ (2000 : Int) < (xs.length : Int) + (ys.length : Int) := by omega
        go_wp2_with fail
        refine (twin_calls A c xs w2 H2.out (by omega) HX.out).mono ?_
        rintro e w3 ⟨A3, c3, rfl, hown3, hb3⟩
        have H3' := Lib.hid (H2'.out.later hb3)
        have hs3 := hb3.size
        have Hb3 := Lib.hid (Hb2.out.trans (hb3.mono hs2')); clear hb3
        have Hown3 := Lib.hid hown3; clear hown3
        go_wp2_with fail
        refine (twin_calls B c' ys w3 H3'.out (by omega) HY.out).mono ?_
        rintro e w4 ⟨A4, c4, rfl, hown4, hb4⟩
        have hs4 := hb4.size
        have hown5 := (Hown3.out.later hb4).mono (base' := w.heap.size) (G' := (w.heap.size ≤ ·)) hs2' (fun k hk => Nat.le_trans hs2' hk)
        have hlt5 := Hown3.out.lt
        have Hown5 := Lib.hid hown5; clear hown5
        obtain ⟨A5, c5, hv5, hsl5⟩ := hown4.fresh
        cases hv5
        have Hsl5 := Lib.hid hsl5; clear hsl5 hown4
        have Hb4 := Lib.hid (Hb3.out.trans (hb4.mono (Nat.le_trans hs2' hs3))); clear hb4
        have hs4' := Hb4.out.size
        have hF5 : ∀ k, (w3.heap.size ≤ k ∧ k < w4.heap.size) → w.heap.size ≤ k ∧ k < w4.heap.size ∧ some k ≠ (Value.slice A3 xs.length c3).ownBlock := fun k hk => ⟨by omega, hk.2, fun he => by
          have := hlt5 k he.symm
          omega⟩
        have HF5 := Lib.hid hF5; clear hF5 hlt5
        have hn5 : (xs ++ ys).length = xs.length + ys.length := by simp
        go_wp2_with ((with_reducible show wpList _ _ _ (Oper.mk (some 28) _ _ _ _ _ :: _) _ _); refine wpList_cat (E := pModF) (xs := xs) 23 44 (.agg #[.int .u8 0, .slice none 0 0]) 32 (.tmp 25) (.tmp 27) rfl rfl Tryd.underlying23 info_mod rfl (by decide) rfl Hown5.out A4 c4 ys rfl _ Hsl5.out HF5.out (xs.length + ys.length) hn5 (room_of (by omega)) (by decide) hs4' ?_; intro A6 c6 w6 hown6 hb6 hk6)
        go_ret2
        exact ⟨A6, c6, by simp only [joinRes_ok Hc.out Hd.out hbig, hn5]; rfl, by rw [joinRes_ok Hc.out Hd.out hbig, hn5]; exact hown6, Hb4.out.trans hb6⟩
    · have e2 : (checkF ys != 0) = true := by simp [hd]
      have Hd := Lib.hid hd; clear hd

      go_wp2
      go_ret2
      exact ⟨none, 0, by rw [joinRes_b Hc.out Hd.out]; rfl, by rw [joinRes_b Hc.out Hd.out]; exact Own.nil, Hb2.out⟩
  · have e1 : (checkF xs != 0) = true := by simp [hc]
    have Hc := Lib.hid hc; clear hc
    go_wp2
    go_ret2
    exact ⟨none, 0, by rw [joinRes_a Hc.out]; rfl, by rw [joinRes_a Hc.out]; exact Own.nil, Hb1.out⟩

end Go.Proofs.YtmcgfhgpldfknaaDoor
