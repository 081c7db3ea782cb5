/-
  RewriteNames, the walk of the law: it returns true.
-/
import Derived.Test.YtmcgfhgpldfknaaDoorQg
import Derived.Deep.DeepCutAuto
namespace Go.Proofs.YtmcgfhgpldfknaaDoor
open Go.RowKit Go.Sort
set_option linter.unusedVariables false

theorem madeQ {α : Type} {E : Rp α} {F : Nat → Prop} {w : World} {g n : Nat} {t : TypeId} {z : Value} {x : α} (h : Blk w g t (madeCells z.cells (n * E.n))) (hR : E.R F w z.cells.toList x) (hF : F g) (hn : n ≤ maxLen) : SlAt E F w (some ⟨g, 0, none⟩) n (List.replicate n x) := by
  refine ⟨by simp, hn, (fun e => by cases e), fun i y hy => ?_⟩
  obtain ⟨hi, hye⟩ := List.getElem?_eq_some_iff.1 hy
  simp at hi hye
  subst hye
  refine ⟨g, 0, z.cells.toList, rfl, hF, hR, fun j c hj => ?_⟩
  have hj2 : j < z.cells.toList.length := (List.getElem?_eq_some_iff.1 hj).1
  have hl := E.len hR
  rw [h.cell]
  have hm : 0 + i * E.n + j < n * E.n := by
    have : (i + 1) * E.n ≤ n * E.n := Nat.mul_le_mul_right _ hi
    rw [Nat.add_mul] at this; omega
  have hz : z.cells[(0 + i * E.n + j) % z.cells.size]! = c := by
    have hs : z.cells.size = E.n := by simpa using hl
    rw [hs, Nat.zero_add, Nat.add_comm, Nat.add_mul_mod_self_right, Nat.mod_eq_of_lt (by omega)]
    have hj3 : z.cells[j]? = some c := by simpa using hj
    rw [getElem!_def, hj3]
  unfold madeCells
  rw [Array.getElem?_map, Array.getElem?_range, if_pos hm]
  exact congrArg some hz
def zeroR : Value := .agg #[.int .u8 0, .int .i64 0, .int .u8 0, .int .u8 0, .slice none 0 0, .int .i64 0, .slice none 0 0]
def bigC : Array Value := madeCells zeroR.cells (41 * 7)
theorem info_rulN : (Tryd.prog.info? 35).map (fun i => (i.zero, i.size, i.bytes)) = some (some zeroR, 7, 80) := by kernel_rfl
theorem make_bigR (wx : World) : (Instr.makeSlice 22 (.int .i64 41) (.int .i64 41)).run Tryd.prog wx = .ok (.slice (some ⟨wx.heap.size, 0, none⟩) 41 41) (wx.alloc (.cells bigC 35)) :=
  run_make_rowN Tryd.underlying22 info_rulN 41 (by omega) (by omega) wx
theorem big_sl {w : World} {g : Nat} (h : Blk w g 35 bigC) : SlAt pRul (Old w) w (some ⟨g, 0, none⟩) 41 bigR :=
  madeQ (E := pRul) (z := zeroR) h ⟨none, 0, none, 0, rfl, ⟨fits_u8 (n := 0) (by decide), fits_i64 (n := 0) (by decide), fits_u8 (n := 0) (by decide), fits_u8 (n := 0) (by decide), fits_i64 (n := 0) (by decide)⟩, sl_none, sl_none⟩ h.lt (by unfold maxLen; omega)
def zeroS : Value := .agg #[.int .u8 0, .slice none 0 0]
def longC : Array Value := madeCells zeroS.cells (21 * 2)
theorem info_shpN : (Tryd.prog.info? 47).map (fun i => (i.zero, i.size, i.bytes)) = some (some zeroS, 2, 32) := by kernel_rfl
theorem make_longR (wx : World) : (Instr.makeSlice 33 (.int .i64 21) (.int .i64 21)).run Tryd.prog wx = .ok (.slice (some ⟨wx.heap.size, 0, none⟩) 21 21) (wx.alloc (.cells longC 47)) :=
  run_make_rowN Tryd.underlying33 info_shpN 21 (by omega) (by omega) wx
theorem long_sl {F : Nat → Prop} {w : World} {g : Nat} (h : Blk w g 47 longC) (hF : F g) : SlAt pShp F w (some ⟨g, 0, none⟩) 21 longP :=
  madeQ (E := pShp) (z := zeroS) h ⟨none, 0, rfl, fits_u8 (n := 0) (by decide), sl_none⟩ hF (by unfold maxLen; omega)
abbrev openC : Array Value := #[.int .u8 93, .slice none 0 0, .int .u8 91, .slice none 0 0]
theorem open_sl {F : Nat → Prop} {w : World} {g : Nat} (h : Blk w g 47 openC) (hF : F g) : SlAt pShp F w (some ⟨g, 0, none⟩) 2 openP :=
  sl_lit (E := pShp) (xs := openP) h ⟨_, [.int .u8 91, .slice none 0 0], rfl, shp_R (fits_u8 (n := 93) (by decide)) sl_none rfl, _, [], rfl, shp_R (fits_u8 (n := 91) (by decide)) sl_none rfl, rfl⟩ hF (by decide) rfl

/-- the worlds differ in one block and in new ones -/
def SameBut (b : Nat) (w w' : World) : Prop := w.heap.size ≤ w'.heap.size ∧ ∀ k, k < w.heap.size → k ≠ b → w'.heap[k]? = w.heap[k]?
theorem sameBut_set (w : World) (b i : Nat) (v : Value) : SameBut b w (w.setCell ⟨b, i, none⟩ v) := ⟨by simp [World.setCell], fun k _ hk => setCell_else _ _ _ _ hk⟩
theorem sameBut_alloc (w : World) (o : Obj) (b i : Nat) (v : Value) : SameBut b w ((w.alloc o).setCell ⟨b, i, none⟩ v) :=
  ⟨by simp [World.setCell], fun k hk hb => (setCell_else _ _ _ _ hb).trans (Below.heap_alloc _ _ _ hk)⟩
def FpN (lo hi n : Nat) (W : World) (k : Nat) : Prop := (lo ≤ k ∧ k < hi) ∨ (n ≤ k ∧ k < W.heap.size)
theorem SlAt.past {α : Type} {E : Rp α} {lo hi n b : Nat} {W W' : World} {A : Option Addr} {c : Nat} {xs : List α} (h : SlAt E (FpN lo hi n W) W A c xs) (hs : SameBut b W W') (h1 : ¬ (lo ≤ b ∧ b < hi)) (h2 : b < n) (h3 : hi ≤ W.heap.size) : SlAt E (FpN lo hi n W') W' A c xs := by
  refine (h.keep fun k hk => hs.2 k ?_ ?_).wide fun k hk => ?_
  · rcases hk with hk | hk <;> omega
  · rcases hk with hk | hk <;> omega
  · rcases hk with hk | hk
    · exact .inl hk
    · exact .inr ⟨hk.1, Nat.lt_of_lt_of_le hk.2 hs.1⟩
theorem GivR.past {lo hi b : Nat} {W W' : World} {g gg gf : Nat} {Ao Ap : Option Addr} (h : GivR lo hi W g gg gf Ao Ap) (hs : SameBut b W W') (h1 : ¬ (lo ≤ b ∧ b < hi)) (h3 : hi ≤ W.heap.size) : GivR lo hi W' g gg gf Ao Ap :=
  h.keep fun k k1 k2 => hs.2 k (by omega) (by omega)
theorem GivR.own {lo hi n : Nat} {W W' : World} {g gg gf : Nat} {Ao Ap : Option Addr} {n1 a1 l1 wt2 : Int} (h : GivR lo hi W g gg gf Ao Ap) (hs : SameBut g W W') (hb : Blk W' g 35 (RowC n1 a1 l1 wt2 (.slice (some ⟨gg, 0, none⟩) 1 1) (.slice Ao 5 5) (.slice Ap 1 1))) (h3 : hi ≤ W.heap.size)
    (f1 : Fits .u8 n1) (f2 : Fits .i64 a1) (f3 : Fits .u8 l1) (f4 : Fits .i64 wt2) : SlAt pRul (FpN lo hi n W') W' (some ⟨g, 0, none⟩) 2 (spoilR n1 a1 l1 wt2 G1 P1) := by
  obtain ⟨sg, so, sp⟩ := h.parts (F := FpN lo hi n W') (fun k k1 k2 k3 => hs.2 k (by omega) k3) (fun k k1 k2 => .inl ⟨k1, k2⟩)
  exact row_sl hb (.inl ⟨by have := h.b0; have := h.b1; omega, h.b2⟩) f1 f2 f3 f4 sg so sp rfl rfl rfl
theorem GivR.outs {lo hi n : Nat} {W W' : World} {g gg gf : Nat} {Ao Ap Aq : Option Addr} {kq cq : Nat} {P : List Shp} (h : GivR lo hi W g gg gf Ao Ap) (hs : SameBut g W W') (hb : Blk W' g 35 (RowC 65 1 0 0 (.slice (some ⟨gg, 0, none⟩) 1 1) (.slice Ao 5 5) (.slice Aq kq cq))) (h3 : hi ≤ W.heap.size)
    (hq : SlAt pShp (FpN lo hi n W') W' Aq cq P) (hk : P.length = kq) : SlAt pRul (FpN lo hi n W') W' (some ⟨g, 0, none⟩) 2 (spoilR 65 1 0 0 G1 P) := by
  obtain ⟨sg, so, _⟩ := h.parts (F := FpN lo hi n W') (fun k k1 k2 k3 => hs.2 k (by omega) k3) (fun k k1 k2 => .inl ⟨k1, k2⟩)
  exact row_sl hb (.inl ⟨by have := h.b0; have := h.b1; omega, h.b2⟩) (fits_u8 (by decide)) (fits_i64 (by decide)) (fits_u8 (by decide)) (fits_i64 (by decide)) sg so hq rfl rfl hk
theorem fp_old {α : Type} {E : Rp α} {lo hi n : Nat} {W : World} {A : Option Addr} {c : Nat} {xs : List α} (h : SlAt E (FpN lo hi n W) W A c xs) (h3 : hi ≤ W.heap.size) : SlAt E (Old W) W A c xs :=
  h.wide fun k hk => by rcases hk with hk | hk; exact Nat.lt_of_lt_of_le hk.2 h3; exact hk.2
/-- one module, written out -/
theorem mod1_sl {w : World} {cells : Array Value} (c : Int) (xs : List Int) {n : Nat} (hc : cells = (xs.map (Value.int .i64)).toArray) (hn : xs.length = n) (hm : n ≤ 100) (hf : Fits .u8 c) (hx : ∀ x ∈ xs, Fits .i64 x) :
    SlAt pMod (Old ((w.alloc (.cells cells 3)).alloc (.cells #[.int .u8 c, .slice (some ⟨w.heap.size, 0, none⟩) n n] 44))) ((w.alloc (.cells cells 3)).alloc (.cells #[.int .u8 c, .slice (some ⟨w.heap.size, 0, none⟩) n n] 44)) (some ⟨w.heap.size + 1, 0, none⟩) 1 [⟨c, xs⟩] ∧
    Below w.heap.size w ((w.alloc (.cells cells 3)).alloc (.cells #[.int .u8 c, .slice (some ⟨w.heap.size, 0, none⟩) n n] 44)) := by
  subst hc
  have h1 := lit_new (E := pI .i64) (w := w) (t := 3) (cells := (xs.map (Value.int .i64)).toArray) (xs := xs) (cellsAre_ints hx) (by unfold maxLen; omega) hn
  obtain ⟨v, hv⟩ : ∃ v, v = w.alloc (.cells (xs.map (Value.int .i64)).toArray 3) := ⟨_, rfl⟩
  have hz : v.heap.size = w.heap.size + 1 := by rw [hv]; simp
  have hb : Below w.heap.size w v := by rw [hv]; exact bl _
  rw [← hv] at h1 ⊢
  rw [← hz]
  exact ⟨lit_new (E := pMod) (w := v) (xs := [⟨c, xs⟩]) ⟨_, [], rfl, mod_R hf h1 hn, rfl⟩ (by unfold maxLen; simp) (n := 1) rfl, hb.trans ((bl _).mono hb.size)⟩
theorem found_ints {cells : Array Value} (c : Int) (xs : List Int) {n : Nat} (want : Int) (w : World) (hc : cells = (xs.map (Value.int .i64)).toArray) (hn : xs.length = n) (hm : n ≤ 100) (hf : Fits .u8 c) (hx : ∀ x ∈ xs, Fits .i64 x) (hr : findF givenR ⟨c, xs⟩ = (want, 0)) :
    Calls Tryd.prog 16 #[.agg #[.int .u8 c, .slice (some ⟨w.heap.size, 0, none⟩) n n], .int .i64 want] (w.alloc (.cells cells 3)) fun e w' => e = .returned (.bool true) ∧ Below w.heap.size w w' := by
  subst hc
  have h := found_calls _ _ ⟨c, xs⟩ want _ (lit_new (E := pI .i64) (w := w) (t := 3) (cells := (xs.map (Value.int .i64)).toArray) (xs := xs) (cellsAre_ints hx) (by unfold maxLen; omega) hn) hf hr
  rw [show (Mod.mk c xs).args.length = n from hn] at h
  refine h.mono ?_
  rintro e w' ⟨rfl, b⟩
  exact ⟨rfl, (bl _).trans (b.mono (bl _).size)⟩
theorem value_ints {cells : Array Value} (g c x a r1 r2 : Int) (gf : Nat) (w : World) (hs : SlAt (pI .i64) (Old w) w (some ⟨gf, 0, none⟩) 1 [x]) (hcl : cells = #[.int .i64 a]) (hc : Fits .i64 c) (ha : Fits .i64 a) (hr : valueF ⟨c, [x]⟩ [a] = (r1, r2)) :
    Calls Tryd.prog 19 #[.agg #[.int .i64 c, .slice (some ⟨gf, 0, none⟩) 1 1], .slice (some ⟨w.heap.size, 0, none⟩) 1 1] (w.alloc (.cells cells 3)) fun e w' => e = .returned (.tuple #[.int .i64 r1, .int .i64 r2]) ∧ Below w.heap.size w w' := by
  subst hcl
  have h := value_calls (some ⟨gf, 0, none⟩) 1 ⟨c, [x]⟩ (some ⟨w.heap.size, 0, none⟩) 1 [a] _ (hs.later (bl (.cells #[.int .i64 a] 3))) (lit_new (E := pI .i64) (w := w) (t := 3) (cells := #[.int .i64 a]) (xs := [a]) (cellsAre_ints (xs := [a]) (fun y hy => by rw [List.mem_singleton.1 hy]; exact ha)) (by unfold maxLen; simp) (n := 1) rfl) hc
  rw [hr] at h
  refine h.mono ?_
  rintro e w' ⟨rfl, b⟩
  exact ⟨rfl, (bl _).trans (b.mono (bl _).size)⟩
set_option maxRecDepth 100000 in
set_option maxHeartbeats 16000000 in
theorem rewriteNames_walk (w : World) (hL : LibAt w) : Calls Tryd.prog 6 #[] w (OkPost w) := by
  have T0 := Lib.hid (Below.refl w.heap.size w)
  have fi0 : Fits .i64 0 := fits_i64 (by decide)
  have fi1 : Fits .i64 1 := fits_i64 (by decide)
  have fi2 : Fits .i64 2 := fits_i64 (by decide)
  have fi7 : Fits .i64 7 := fits_i64 (by decide)
  have fim3 : Fits .i64 (-3) := fits_i64 (by decide)
  have HL := Lib.hid hL; clear hL
  have Fi0 := Lib.hid fi0; clear fi0
  have Fi1 := Lib.hid fi1; clear fi1
  have Fi2 := Lib.hid fi2; clear fi2
  have Fi7 := Lib.hid fi7; clear fi7
  have Fim3 := Lib.hid fim3; clear fim3
  go_enter Tryd.func6, Tryd.ntmps6
  go_upto_region 1 with fail
  go_cut [1] (fun s1 wx => s1 = .bool true ∧ Hid (Below w.heap.size w wx))
  case first =>
    go_wp2_with fail
    refine (found_ints 65 [1] (0) w rfl rfl (by decide) (fits_u8 (by decide)) (fun x hx => fits_i64 (by simp at hx; omega)) fnd_all.1).mono ?_
    rintro e w1 ⟨rfl, b1⟩
    have T1 := Lib.hid (T0.out.trans (b1.mono T0.out.size)); clear b1
    go_wp2_with fail
    refine (found_ints 65 [0] (1) w1 rfl rfl (by decide) (fits_u8 (by decide)) (fun x hx => fits_i64 (by simp at hx; omega)) fnd_all.2.1).mono ?_
    rintro e w2 ⟨rfl, b2⟩
    have T2 := Lib.hid (T1.out.trans (b2.mono T1.out.size)); clear b2
    go_wp2_with fail
    refine (found_ints 65 [-1000000000] (1) w2 rfl rfl (by decide) (fits_u8 (by decide)) (fun x hx => fits_i64 (by simp at hx; omega)) fnd_all.2.2.1).mono ?_
    rintro e w3 ⟨rfl, b3⟩
    have T3 := Lib.hid (T2.out.trans (b3.mono T2.out.size)); clear b3
    go_wp2_with fail
    refine (found_calls none 0 ⟨65, []⟩ (-1) w3 sl_none (fits_u8 (n := 65) (by decide)) fnd_all.2.2.2.1).mono ?_
    rintro e w4 ⟨rfl, b4⟩
    have T4 := Lib.hid (T3.out.trans (b4.mono T3.out.size)); clear b4
    go_wp2_with fail
    refine (found_ints 65 [1, 1] (-1) w4 rfl rfl (by decide) (fits_u8 (by decide)) (fun x hx => fits_i64 (by simp at hx; omega)) fnd_all.2.2.2.2.1).mono ?_
    rintro e w5 ⟨rfl, b5⟩
    have T5 := Lib.hid (T4.out.trans (b5.mono T4.out.size)); clear b5
    go_wp2_with fail
    refine (found_ints 70 [1] (-1) w5 rfl rfl (by decide) (fits_u8 (by decide)) (fun x hx => fits_i64 (by simp at hx; omega)) fnd_all.2.2.2.2.2.1).mono ?_
    rintro e w6 ⟨rfl, b6⟩
    have T6 := Lib.hid (T5.out.trans (b6.mono T5.out.size)); clear b6
    go_wp2_with fail
    refine (found_calls none 0 ⟨93, []⟩ (-1) w6 sl_none (fits_u8 (n := 93) (by decide)) fnd_all.2.2.2.2.2.2).mono ?_
    rintro e w7 ⟨rfl, b7⟩
    have T7 := Lib.hid (T6.out.trans (b7.mono T6.out.size)); clear b7
    go_wp2_with fail
    go_meet
    exact ⟨rfl, T7.out⟩
  case rest =>
  obtain ⟨rfl, hb⟩ := hcut
  obtain ⟨w30, rfl⟩ : ∃ W : World, W = wc := ⟨_, rfl⟩
  clear T0
  have T30 := Lib.hid hb.out; clear hb
  have ORD0 := Lib.hid T30.out.size
  go_wp2_with fail
  refine (givenN_calls w30).mono ?_
  rintro e w31 ⟨g1, h1, q1, Ao1, Ap1, rfl, b31, R1⟩
  have T31 := Lib.hid (T30.out.trans (b31.mono T30.out.size))
  have ORD1 : Hid (w.heap.size ≤ w30.heap.size ∧ w30.heap.size ≤ h1 ∧ h1 < g1 ∧ g1 < w31.heap.size) := by
    have o := ORD0.out
    unfold Hid
    exact ⟨o, R1.out.b0, R1.out.b1, R1.out.b2⟩
  clear b31 ORD0
  go_wp2_with fail
  refine (givenN_calls w31).mono ?_
  rintro e w32 ⟨g2, h2, q2, Ao2, Ap2, rfl, b32, R2⟩
  have T32 := Lib.hid (T31.out.trans (b32.mono T31.out.size))
  have ORD2 : Hid (w.heap.size ≤ w30.heap.size ∧ w30.heap.size ≤ h1 ∧ h1 < g1 ∧ g1 < w31.heap.size ∧ w31.heap.size ≤ h2 ∧ h2 < g2 ∧ g2 < w32.heap.size) := by
    have o := ORD1.out
    unfold Hid
    exact ⟨o.1, o.2.1, o.2.2.1, o.2.2.2, R2.out.b0, R2.out.b1, R2.out.b2⟩
  have R1 := Lib.hid (R1.out.keep fun k k1 k2 => b32.block k (by have o := ORD1.out; omega))
  clear b32 ORD1
  go_wp2_with fail
  refine (givenN_calls w32).mono ?_
  rintro e w33 ⟨g3, h3, q3, Ao3, Ap3, rfl, b33, R3⟩
  have T33 := Lib.hid (T32.out.trans (b33.mono T32.out.size))
  have ORD3 : Hid (w.heap.size ≤ w30.heap.size ∧ w30.heap.size ≤ h1 ∧ h1 < g1 ∧ g1 < w31.heap.size ∧ w31.heap.size ≤ h2 ∧ h2 < g2 ∧ g2 < w32.heap.size ∧ w32.heap.size ≤ h3 ∧ h3 < g3 ∧ g3 < w33.heap.size) := by
    have o := ORD2.out
    unfold Hid
    exact ⟨o.1, o.2.1, o.2.2.1, o.2.2.2.1, o.2.2.2.2.1, o.2.2.2.2.2.1, o.2.2.2.2.2.2, R3.out.b0, R3.out.b1, R3.out.b2⟩
  have R1 := Lib.hid (R1.out.keep fun k k1 k2 => b33.block k (by have o := ORD2.out; omega))
  have R2 := Lib.hid (R2.out.keep fun k k1 k2 => b33.block k (by have o := ORD2.out; omega))
  clear b33 ORD2
  go_wp2_with fail
  refine (givenN_calls w33).mono ?_
  rintro e w34 ⟨g4, h4, q4, Ao4, Ap4, rfl, b34, R4⟩
  have T34 := Lib.hid (T33.out.trans (b34.mono T33.out.size))
  have ORD4 : Hid (w.heap.size ≤ w30.heap.size ∧ w30.heap.size ≤ h1 ∧ h1 < g1 ∧ g1 < w31.heap.size ∧ w31.heap.size ≤ h2 ∧ h2 < g2 ∧ g2 < w32.heap.size ∧ w32.heap.size ≤ h3 ∧ h3 < g3 ∧ g3 < w33.heap.size ∧ w33.heap.size ≤ h4 ∧ h4 < g4 ∧ g4 < w34.heap.size) := by
    have o := ORD3.out
    unfold Hid
    exact ⟨o.1, o.2.1, o.2.2.1, o.2.2.2.1, o.2.2.2.2.1, o.2.2.2.2.2.1, o.2.2.2.2.2.2.1, o.2.2.2.2.2.2.2.1, o.2.2.2.2.2.2.2.2.1, o.2.2.2.2.2.2.2.2.2, R4.out.b0, R4.out.b1, R4.out.b2⟩
  have R1 := Lib.hid (R1.out.keep fun k k1 k2 => b34.block k (by have o := ORD3.out; omega))
  have R2 := Lib.hid (R2.out.keep fun k k1 k2 => b34.block k (by have o := ORD3.out; omega))
  have R3 := Lib.hid (R3.out.keep fun k k1 k2 => b34.block k (by have o := ORD3.out; omega))
  clear b34 ORD3
  go_wp2_with fail
  refine (givenN_calls w34).mono ?_
  rintro e w35 ⟨g5, h5, q5, Ao5, Ap5, rfl, b35, R5⟩
  have T35 := Lib.hid (T34.out.trans (b35.mono T34.out.size))
  have ORD5 : Hid (w.heap.size ≤ w30.heap.size ∧ w30.heap.size ≤ h1 ∧ h1 < g1 ∧ g1 < w31.heap.size ∧ w31.heap.size ≤ h2 ∧ h2 < g2 ∧ g2 < w32.heap.size ∧ w32.heap.size ≤ h3 ∧ h3 < g3 ∧ g3 < w33.heap.size ∧ w33.heap.size ≤ h4 ∧ h4 < g4 ∧ g4 < w34.heap.size ∧ w34.heap.size ≤ h5 ∧ h5 < g5 ∧ g5 < w35.heap.size) := by
    have o := ORD4.out
    unfold Hid
    exact ⟨o.1, o.2.1, o.2.2.1, o.2.2.2.1, o.2.2.2.2.1, o.2.2.2.2.2.1, o.2.2.2.2.2.2.1, o.2.2.2.2.2.2.2.1, o.2.2.2.2.2.2.2.2.1, o.2.2.2.2.2.2.2.2.2.1, o.2.2.2.2.2.2.2.2.2.2.1, o.2.2.2.2.2.2.2.2.2.2.2.1, o.2.2.2.2.2.2.2.2.2.2.2.2, R5.out.b0, R5.out.b1, R5.out.b2⟩
  have R1 := Lib.hid (R1.out.keep fun k k1 k2 => b35.block k (by have o := ORD4.out; omega))
  have R2 := Lib.hid (R2.out.keep fun k k1 k2 => b35.block k (by have o := ORD4.out; omega))
  have R3 := Lib.hid (R3.out.keep fun k k1 k2 => b35.block k (by have o := ORD4.out; omega))
  have R4 := Lib.hid (R4.out.keep fun k k1 k2 => b35.block k (by have o := ORD4.out; omega))
  clear b35 ORD4
  go_wp2_with fail
  refine (givenN_calls w35).mono ?_
  rintro e w36 ⟨g6, h6, q6, Ao6, Ap6, rfl, b36, R6⟩
  have T36 := Lib.hid (T35.out.trans (b36.mono T35.out.size))
  have ORD6 : Hid (w.heap.size ≤ w30.heap.size ∧ w30.heap.size ≤ h1 ∧ h1 < g1 ∧ g1 < w31.heap.size ∧ w31.heap.size ≤ h2 ∧ h2 < g2 ∧ g2 < w32.heap.size ∧ w32.heap.size ≤ h3 ∧ h3 < g3 ∧ g3 < w33.heap.size ∧ w33.heap.size ≤ h4 ∧ h4 < g4 ∧ g4 < w34.heap.size ∧ w34.heap.size ≤ h5 ∧ h5 < g5 ∧ g5 < w35.heap.size ∧ w35.heap.size ≤ h6 ∧ h6 < g6 ∧ g6 < w36.heap.size) := by
    have o := ORD5.out
    unfold Hid
    exact ⟨o.1, o.2.1, o.2.2.1, o.2.2.2.1, o.2.2.2.2.1, o.2.2.2.2.2.1, o.2.2.2.2.2.2.1, o.2.2.2.2.2.2.2.1, o.2.2.2.2.2.2.2.2.1, o.2.2.2.2.2.2.2.2.2.1, o.2.2.2.2.2.2.2.2.2.2.1, o.2.2.2.2.2.2.2.2.2.2.2.1, o.2.2.2.2.2.2.2.2.2.2.2.2.1, o.2.2.2.2.2.2.2.2.2.2.2.2.2.1, o.2.2.2.2.2.2.2.2.2.2.2.2.2.2.1, o.2.2.2.2.2.2.2.2.2.2.2.2.2.2.2, R6.out.b0, R6.out.b1, R6.out.b2⟩
  have R1 := Lib.hid (R1.out.keep fun k k1 k2 => b36.block k (by have o := ORD5.out; omega))
  have R2 := Lib.hid (R2.out.keep fun k k1 k2 => b36.block k (by have o := ORD5.out; omega))
  have R3 := Lib.hid (R3.out.keep fun k k1 k2 => b36.block k (by have o := ORD5.out; omega))
  have R4 := Lib.hid (R4.out.keep fun k k1 k2 => b36.block k (by have o := ORD5.out; omega))
  have R5 := Lib.hid (R5.out.keep fun k k1 k2 => b36.block k (by have o := ORD5.out; omega))
  clear b36 ORD5
  go_wp2_with fail
  refine (givenN_calls w36).mono ?_
  rintro e w37 ⟨g7, h7, q7, Ao7, Ap7, rfl, b37, R7⟩
  have T37 := Lib.hid (T36.out.trans (b37.mono T36.out.size))
  have ORD7 : Hid (w.heap.size ≤ w30.heap.size ∧ w30.heap.size ≤ h1 ∧ h1 < g1 ∧ g1 < w31.heap.size ∧ w31.heap.size ≤ h2 ∧ h2 < g2 ∧ g2 < w32.heap.size ∧ w32.heap.size ≤ h3 ∧ h3 < g3 ∧ g3 < w33.heap.size ∧ w33.heap.size ≤ h4 ∧ h4 < g4 ∧ g4 < w34.heap.size ∧ w34.heap.size ≤ h5 ∧ h5 < g5 ∧ g5 < w35.heap.size ∧ w35.heap.size ≤ h6 ∧ h6 < g6 ∧ g6 < w36.heap.size ∧ w36.heap.size ≤ h7 ∧ h7 < g7 ∧ g7 < w37.heap.size) := by
    have o := ORD6.out
    unfold Hid
    exact ⟨o.1, o.2.1, o.2.2.1, o.2.2.2.1, o.2.2.2.2.1, o.2.2.2.2.2.1, o.2.2.2.2.2.2.1, o.2.2.2.2.2.2.2.1, o.2.2.2.2.2.2.2.2.1, o.2.2.2.2.2.2.2.2.2.1, o.2.2.2.2.2.2.2.2.2.2.1, o.2.2.2.2.2.2.2.2.2.2.2.1, o.2.2.2.2.2.2.2.2.2.2.2.2.1, o.2.2.2.2.2.2.2.2.2.2.2.2.2.1, o.2.2.2.2.2.2.2.2.2.2.2.2.2.2.1, o.2.2.2.2.2.2.2.2.2.2.2.2.2.2.2.1, o.2.2.2.2.2.2.2.2.2.2.2.2.2.2.2.2.1, o.2.2.2.2.2.2.2.2.2.2.2.2.2.2.2.2.2.1, o.2.2.2.2.2.2.2.2.2.2.2.2.2.2.2.2.2.2, R7.out.b0, R7.out.b1, R7.out.b2⟩
  have R1 := Lib.hid (R1.out.keep fun k k1 k2 => b37.block k (by have o := ORD6.out; omega))
  have R2 := Lib.hid (R2.out.keep fun k k1 k2 => b37.block k (by have o := ORD6.out; omega))
  have R3 := Lib.hid (R3.out.keep fun k k1 k2 => b37.block k (by have o := ORD6.out; omega))
  have R4 := Lib.hid (R4.out.keep fun k k1 k2 => b37.block k (by have o := ORD6.out; omega))
  have R5 := Lib.hid (R5.out.keep fun k k1 k2 => b37.block k (by have o := ORD6.out; omega))
  have R6 := Lib.hid (R6.out.keep fun k k1 k2 => b37.block k (by have o := ORD6.out; omega))
  clear b37 ORD6
  have hmk1 := make_longR
  have Z37 : Hid (w37.heap.size ≤ w37.heap.size) := Nat.le_refl _
  have q1 : (w37.alloc (.cells longC 47)).cell? ⟨g1, 13, none⟩ = some (.slice Ap1 1 1) := ((R1.out.blk.alloc (.cells longC 47)).cell 13).trans rfl
  have q2 : (w37.alloc (.cells longC 47)).frozen? ⟨g1, 13, none⟩ = false := (R1.out.blk.alloc (.cells longC 47)).free 13
  obtain ⟨w38, hw38⟩ : ∃ W, W = (w37.alloc (.cells longC 47)).setCell ⟨g1, 13, none⟩ (.slice (some ⟨w37.heap.size, 0, none⟩) 21 21) := ⟨_, rfl⟩
  have sb : SameBut g1 w37 w38 := by rw [hw38]; exact sameBut_alloc _ _ _ _ _
  have Z38 : Hid (w37.heap.size ≤ w38.heap.size) := Nat.le_trans Z37.out sb.1
  have T38 := Lib.hid (show Below w.heap.size w w38 by rw [hw38]; exact (T37.out.alloc T37.out.size _).setCell (by show w.heap.size ≤ g1; have o := ORD7.out; omega) _)
  have nb : Blk w38 w37.heap.size 47 longC := by rw [hw38]; exact (Blk.new w37 _ _).same (setCell_else _ _ _ _ (by show w37.heap.size ≠ g1; have o := ORD7.out; have z := Z37.out; omega))
  have ns : w37.heap.size < w38.heap.size := nb.lt
  have ob : Blk w38 g1 35 (RowC 65 1 0 0 (.slice (some ⟨h1, 0, none⟩) 1 1) (.slice Ao1 5 5) (.slice (some ⟨w37.heap.size, 0, none⟩) 21 21)) := by rw [hw38]; exact (R1.out.blk.alloc (.cells longC 47)).set 13 _
  have F1 := Lib.hid (R1.out.outs (n := w37.heap.size) sb ob (by have o := ORD7.out; have z := Z37.out; omega) (long_sl nb (.inr ⟨Z37.out, ns⟩)) rfl)
  clear nb ns ob
  have R2 := Lib.hid (R2.out.past sb (by have o := ORD7.out; omega) (by have o := ORD7.out; have z := Z37.out; omega))
  have R3 := Lib.hid (R3.out.past sb (by have o := ORD7.out; omega) (by have o := ORD7.out; have z := Z37.out; omega))
  have R4 := Lib.hid (R4.out.past sb (by have o := ORD7.out; omega) (by have o := ORD7.out; have z := Z37.out; omega))
  have R5 := Lib.hid (R5.out.past sb (by have o := ORD7.out; omega) (by have o := ORD7.out; have z := Z37.out; omega))
  have R6 := Lib.hid (R6.out.past sb (by have o := ORD7.out; omega) (by have o := ORD7.out; have z := Z37.out; omega))
  have R7 := Lib.hid (R7.out.past sb (by have o := ORD7.out; omega) (by have o := ORD7.out; have z := Z37.out; omega))
  clear sb R1
  have Hw38 := Lib.hid hw38; clear hw38
  go_upto_region 4 with fail
  rw [← Hw38.out]
  clear q1 q2 Hw38 Z37 T37
  clear hmk1
  have q1 : w38.cell? ⟨g2, 2, none⟩ = some (.int .u8 0) := (R2.out.blk.cell 2).trans rfl
  have q2 : w38.frozen? ⟨g2, 2, none⟩ = false := R2.out.blk.free 2
  obtain ⟨w39, hw39⟩ : ∃ W, W = w38.setCell ⟨g2, 2, none⟩ (.int .u8 70) := ⟨_, rfl⟩
  have sb : SameBut g2 w38 w39 := by rw [hw39]; exact sameBut_set _ _ _ _
  have Z39 : Hid (w37.heap.size ≤ w39.heap.size) := Nat.le_trans Z38.out sb.1
  have T39 := Lib.hid (show Below w.heap.size w w39 by rw [hw39]; exact T38.out.setCell (by show w.heap.size ≤ g2; have o := ORD7.out; omega) _)
  have ob : Blk w39 g2 35 (RowC 65 1 70 0 (.slice (some ⟨h2, 0, none⟩) 1 1) (.slice Ao2 5 5) (.slice Ap2 1 1)) := by rw [hw39]; exact R2.out.blk.set 2 _
  have F2 := Lib.hid (R2.out.own (n := w37.heap.size) sb ob (by have o := ORD7.out; have z := Z38.out; omega) (fits_u8 (by decide)) (fits_i64 (by decide)) (fits_u8 (by decide)) (fits_i64 (by decide)))
  clear ob
  have R3 := Lib.hid (R3.out.past sb (by have o := ORD7.out; omega) (by have o := ORD7.out; have z := Z38.out; omega))
  have R4 := Lib.hid (R4.out.past sb (by have o := ORD7.out; omega) (by have o := ORD7.out; have z := Z38.out; omega))
  have R5 := Lib.hid (R5.out.past sb (by have o := ORD7.out; omega) (by have o := ORD7.out; have z := Z38.out; omega))
  have R6 := Lib.hid (R6.out.past sb (by have o := ORD7.out; omega) (by have o := ORD7.out; have z := Z38.out; omega))
  have R7 := Lib.hid (R7.out.past sb (by have o := ORD7.out; omega) (by have o := ORD7.out; have z := Z38.out; omega))
  have F1 := Lib.hid (F1.out.past sb (by have o := ORD7.out; omega) (by have o := ORD7.out; omega) (by have o := ORD7.out; have z := Z38.out; omega))
  clear sb R2
  have Hw39 := Lib.hid hw39; clear hw39
  go_upto_region 5 with fail
  rw [← Hw39.out]
  clear q1 q2 Hw39 Z38 T38
  have q1 : w39.cell? ⟨g3, 12, none⟩ = some (.int .i64 0) := (R3.out.blk.cell 12).trans rfl
  have q2 : w39.frozen? ⟨g3, 12, none⟩ = false := R3.out.blk.free 12
  obtain ⟨w40, hw40⟩ : ∃ W, W = w39.setCell ⟨g3, 12, none⟩ (.int .i64 1) := ⟨_, rfl⟩
  have sb : SameBut g3 w39 w40 := by rw [hw40]; exact sameBut_set _ _ _ _
  have Z40 : Hid (w37.heap.size ≤ w40.heap.size) := Nat.le_trans Z39.out sb.1
  have T40 := Lib.hid (show Below w.heap.size w w40 by rw [hw40]; exact T39.out.setCell (by show w.heap.size ≤ g3; have o := ORD7.out; omega) _)
  have ob : Blk w40 g3 35 (RowC 65 1 0 1 (.slice (some ⟨h3, 0, none⟩) 1 1) (.slice Ao3 5 5) (.slice Ap3 1 1)) := by rw [hw40]; exact R3.out.blk.set 12 _
  have F3 := Lib.hid (R3.out.own (n := w37.heap.size) sb ob (by have o := ORD7.out; have z := Z39.out; omega) (fits_u8 (by decide)) (fits_i64 (by decide)) (fits_u8 (by decide)) (fits_i64 (by decide)))
  clear ob
  have R4 := Lib.hid (R4.out.past sb (by have o := ORD7.out; omega) (by have o := ORD7.out; have z := Z39.out; omega))
  have R5 := Lib.hid (R5.out.past sb (by have o := ORD7.out; omega) (by have o := ORD7.out; have z := Z39.out; omega))
  have R6 := Lib.hid (R6.out.past sb (by have o := ORD7.out; omega) (by have o := ORD7.out; have z := Z39.out; omega))
  have R7 := Lib.hid (R7.out.past sb (by have o := ORD7.out; omega) (by have o := ORD7.out; have z := Z39.out; omega))
  have F1 := Lib.hid (F1.out.past sb (by have o := ORD7.out; omega) (by have o := ORD7.out; omega) (by have o := ORD7.out; have z := Z39.out; omega))
  have F2 := Lib.hid (F2.out.past sb (by have o := ORD7.out; omega) (by have o := ORD7.out; omega) (by have o := ORD7.out; have z := Z39.out; omega))
  clear sb R3
  have Hw40 := Lib.hid hw40; clear hw40
  go_upto_region 6 with fail
  rw [← Hw40.out]
  clear q1 q2 Hw40 Z39 T39
  have q1 : (w40.alloc (.cells #[.int .u8 93, .slice none 0 0, .int .u8 91, .slice none 0 0] 47)).cell? ⟨g4, 13, none⟩ = some (.slice Ap4 1 1) := ((R4.out.blk.alloc (.cells #[.int .u8 93, .slice none 0 0, .int .u8 91, .slice none 0 0] 47)).cell 13).trans rfl
  have q2 : (w40.alloc (.cells #[.int .u8 93, .slice none 0 0, .int .u8 91, .slice none 0 0] 47)).frozen? ⟨g4, 13, none⟩ = false := (R4.out.blk.alloc (.cells #[.int .u8 93, .slice none 0 0, .int .u8 91, .slice none 0 0] 47)).free 13
  obtain ⟨w41, hw41⟩ : ∃ W, W = (w40.alloc (.cells #[.int .u8 93, .slice none 0 0, .int .u8 91, .slice none 0 0] 47)).setCell ⟨g4, 13, none⟩ (.slice (some ⟨w40.heap.size, 0, none⟩) 2 2) := ⟨_, rfl⟩
  have sb : SameBut g4 w40 w41 := by rw [hw41]; exact sameBut_alloc _ _ _ _ _
  have Z41 : Hid (w37.heap.size ≤ w41.heap.size) := Nat.le_trans Z40.out sb.1
  have T41 := Lib.hid (show Below w.heap.size w w41 by rw [hw41]; exact (T40.out.alloc T40.out.size _).setCell (by show w.heap.size ≤ g4; have o := ORD7.out; omega) _)
  have nb : Blk w41 w40.heap.size 47 #[.int .u8 93, .slice none 0 0, .int .u8 91, .slice none 0 0] := by rw [hw41]; exact (Blk.new w40 _ _).same (setCell_else _ _ _ _ (by show w40.heap.size ≠ g4; have o := ORD7.out; have z := Z40.out; omega))
  have ns : w40.heap.size < w41.heap.size := nb.lt
  have ob : Blk w41 g4 35 (RowC 65 1 0 0 (.slice (some ⟨h4, 0, none⟩) 1 1) (.slice Ao4 5 5) (.slice (some ⟨w40.heap.size, 0, none⟩) 2 2)) := by rw [hw41]; exact (R4.out.blk.alloc (.cells #[.int .u8 93, .slice none 0 0, .int .u8 91, .slice none 0 0] 47)).set 13 _
  have F4 := Lib.hid (R4.out.outs (n := w37.heap.size) sb ob (by have o := ORD7.out; have z := Z40.out; omega) (open_sl nb (.inr ⟨Z40.out, ns⟩)) rfl)
  clear nb ns ob
  have R5 := Lib.hid (R5.out.past sb (by have o := ORD7.out; omega) (by have o := ORD7.out; have z := Z40.out; omega))
  have R6 := Lib.hid (R6.out.past sb (by have o := ORD7.out; omega) (by have o := ORD7.out; have z := Z40.out; omega))
  have R7 := Lib.hid (R7.out.past sb (by have o := ORD7.out; omega) (by have o := ORD7.out; have z := Z40.out; omega))
  have F1 := Lib.hid (F1.out.past sb (by have o := ORD7.out; omega) (by have o := ORD7.out; omega) (by have o := ORD7.out; have z := Z40.out; omega))
  have F2 := Lib.hid (F2.out.past sb (by have o := ORD7.out; omega) (by have o := ORD7.out; omega) (by have o := ORD7.out; have z := Z40.out; omega))
  have F3 := Lib.hid (F3.out.past sb (by have o := ORD7.out; omega) (by have o := ORD7.out; omega) (by have o := ORD7.out; have z := Z40.out; omega))
  clear sb R4
  have Hw41 := Lib.hid hw41; clear hw41
  go_upto_region 7 with fail
  rw [← Hw41.out]
  clear q1 q2 Hw41 Z40 T40
  have q1 : w41.cell? ⟨g5, 1, none⟩ = some (.int .i64 1) := (R5.out.blk.cell 1).trans rfl
  have q2 : w41.frozen? ⟨g5, 1, none⟩ = false := R5.out.blk.free 1
  obtain ⟨w42, hw42⟩ : ∃ W, W = w41.setCell ⟨g5, 1, none⟩ (.int .i64 2) := ⟨_, rfl⟩
  have sb : SameBut g5 w41 w42 := by rw [hw42]; exact sameBut_set _ _ _ _
  have Z42 : Hid (w37.heap.size ≤ w42.heap.size) := Nat.le_trans Z41.out sb.1
  have T42 := Lib.hid (show Below w.heap.size w w42 by rw [hw42]; exact T41.out.setCell (by show w.heap.size ≤ g5; have o := ORD7.out; omega) _)
  have ob : Blk w42 g5 35 (RowC 65 2 0 0 (.slice (some ⟨h5, 0, none⟩) 1 1) (.slice Ao5 5 5) (.slice Ap5 1 1)) := by rw [hw42]; exact R5.out.blk.set 1 _
  have F5 := Lib.hid (R5.out.own (n := w37.heap.size) sb ob (by have o := ORD7.out; have z := Z41.out; omega) (fits_u8 (by decide)) (fits_i64 (by decide)) (fits_u8 (by decide)) (fits_i64 (by decide)))
  clear ob
  have R6 := Lib.hid (R6.out.past sb (by have o := ORD7.out; omega) (by have o := ORD7.out; have z := Z41.out; omega))
  have R7 := Lib.hid (R7.out.past sb (by have o := ORD7.out; omega) (by have o := ORD7.out; have z := Z41.out; omega))
  have F1 := Lib.hid (F1.out.past sb (by have o := ORD7.out; omega) (by have o := ORD7.out; omega) (by have o := ORD7.out; have z := Z41.out; omega))
  have F2 := Lib.hid (F2.out.past sb (by have o := ORD7.out; omega) (by have o := ORD7.out; omega) (by have o := ORD7.out; have z := Z41.out; omega))
  have F3 := Lib.hid (F3.out.past sb (by have o := ORD7.out; omega) (by have o := ORD7.out; omega) (by have o := ORD7.out; have z := Z41.out; omega))
  have F4 := Lib.hid (F4.out.past sb (by have o := ORD7.out; omega) (by have o := ORD7.out; omega) (by have o := ORD7.out; have z := Z41.out; omega))
  clear sb R5
  have Hw42 := Lib.hid hw42; clear hw42
  go_upto_region 8 with fail
  rw [← Hw42.out]
  clear q1 q2 Hw42 Z41 T41
  have q1 : w42.cell? ⟨h6, 0, none⟩ = some (.int .i64 (-1)) := (R6.out.gb.cell 0).trans rfl
  have q2 : w42.frozen? ⟨h6, 0, none⟩ = false := R6.out.gb.free 0
  have q3 : w42.cell? ⟨g6, 4, none⟩ = some (.slice (some ⟨h6, 0, none⟩) 1 1) := (R6.out.blk.cell 4).trans rfl
  obtain ⟨w43, hw43⟩ : ∃ W, W = w42.setCell ⟨h6, 0, none⟩ (.int .i64 (-1000001)) := ⟨_, rfl⟩
  have sb : SameBut h6 w42 w43 := by rw [hw43]; exact sameBut_set _ _ _ _
  have Z43 : Hid (w37.heap.size ≤ w43.heap.size) := Nat.le_trans Z42.out sb.1
  have T43 := Lib.hid (show Below w.heap.size w w43 by rw [hw43]; exact T42.out.setCell (by show w.heap.size ≤ h6; have o := ORD7.out; omega) _)
  have F6 := Lib.hid (show SlAt pRul (FpN w35.heap.size w36.heap.size w37.heap.size w43) w43 (some ⟨g6, 0, none⟩) 2 (spoilR 65 1 0 0 [⟨-1000001, [1]⟩] P1) by rw [hw43]; exact R6.out.coef fun k k1 k2 => .inl ⟨k1, k2⟩)
  have R7 := Lib.hid (R7.out.past sb (by have o := ORD7.out; omega) (by have o := ORD7.out; have z := Z42.out; omega))
  have F1 := Lib.hid (F1.out.past sb (by have o := ORD7.out; omega) (by have o := ORD7.out; omega) (by have o := ORD7.out; have z := Z42.out; omega))
  have F2 := Lib.hid (F2.out.past sb (by have o := ORD7.out; omega) (by have o := ORD7.out; omega) (by have o := ORD7.out; have z := Z42.out; omega))
  have F3 := Lib.hid (F3.out.past sb (by have o := ORD7.out; omega) (by have o := ORD7.out; omega) (by have o := ORD7.out; have z := Z42.out; omega))
  have F4 := Lib.hid (F4.out.past sb (by have o := ORD7.out; omega) (by have o := ORD7.out; omega) (by have o := ORD7.out; have z := Z42.out; omega))
  have F5 := Lib.hid (F5.out.past sb (by have o := ORD7.out; omega) (by have o := ORD7.out; omega) (by have o := ORD7.out; have z := Z42.out; omega))
  clear sb R6
  have Hw43 := Lib.hid hw43; clear hw43
  go_upto_region 9 with fail
  rw [← Hw43.out]
  clear q1 q2 q3 Hw43 Z42 T42
  have q1 : w43.cell? ⟨g7, 0, none⟩ = some (.int .u8 65) := (R7.out.blk.cell 0).trans rfl
  have q2 : w43.frozen? ⟨g7, 0, none⟩ = false := R7.out.blk.free 0
  obtain ⟨w44, hw44⟩ : ∃ W, W = w43.setCell ⟨g7, 0, none⟩ (.int .u8 91) := ⟨_, rfl⟩
  have sb : SameBut g7 w43 w44 := by rw [hw44]; exact sameBut_set _ _ _ _
  have Z44 : Hid (w37.heap.size ≤ w44.heap.size) := Nat.le_trans Z43.out sb.1
  have T44 := Lib.hid (show Below w.heap.size w w44 by rw [hw44]; exact T43.out.setCell (by show w.heap.size ≤ g7; have o := ORD7.out; omega) _)
  have ob : Blk w44 g7 35 (RowC 91 1 0 0 (.slice (some ⟨h7, 0, none⟩) 1 1) (.slice Ao7 5 5) (.slice Ap7 1 1)) := by rw [hw44]; exact R7.out.blk.set 0 _
  have F7 := Lib.hid (R7.out.own (n := w37.heap.size) sb ob (by have o := ORD7.out; have z := Z43.out; omega) (fits_u8 (by decide)) (fits_i64 (by decide)) (fits_u8 (by decide)) (fits_i64 (by decide)))
  clear ob
  have F1 := Lib.hid (F1.out.past sb (by have o := ORD7.out; omega) (by have o := ORD7.out; omega) (by have o := ORD7.out; have z := Z43.out; omega))
  have F2 := Lib.hid (F2.out.past sb (by have o := ORD7.out; omega) (by have o := ORD7.out; omega) (by have o := ORD7.out; have z := Z43.out; omega))
  have F3 := Lib.hid (F3.out.past sb (by have o := ORD7.out; omega) (by have o := ORD7.out; omega) (by have o := ORD7.out; have z := Z43.out; omega))
  have F4 := Lib.hid (F4.out.past sb (by have o := ORD7.out; omega) (by have o := ORD7.out; omega) (by have o := ORD7.out; have z := Z43.out; omega))
  have F5 := Lib.hid (F5.out.past sb (by have o := ORD7.out; omega) (by have o := ORD7.out; omega) (by have o := ORD7.out; have z := Z43.out; omega))
  have F6 := Lib.hid (F6.out.past sb (by have o := ORD7.out; omega) (by have o := ORD7.out; omega) (by have o := ORD7.out; have z := Z43.out; omega))
  clear sb R7
  have Hw44 := Lib.hid hw44; clear hw44
  go_upto_region 10 with fail
  rw [← Hw44.out]
  clear q1 q2 Hw44 Z43 T43
  have S1 := Lib.hid (fp_old F1.out (by have o := ORD7.out; have z := Z44.out; omega))
  have S2 := Lib.hid (fp_old F2.out (by have o := ORD7.out; have z := Z44.out; omega))
  have S3 := Lib.hid (fp_old F3.out (by have o := ORD7.out; have z := Z44.out; omega))
  have S4 := Lib.hid (fp_old F4.out (by have o := ORD7.out; have z := Z44.out; omega))
  have S5 := Lib.hid (fp_old F5.out (by have o := ORD7.out; have z := Z44.out; omega))
  have S6 := Lib.hid (fp_old F6.out (by have o := ORD7.out; have z := Z44.out; omega))
  have S7 := Lib.hid (fp_old F7.out (by have o := ORD7.out; have z := Z44.out; omega))
  clear F1 F2 F3 F4 F5 F6 F7 ORD7 Z44
  have hmk2 := make_bigR
  go_cut [9] (fun s1 wx => s1 = .bool true ∧ Hid (Below w.heap.size w wx))
  case first =>
    have pc := rCheck_calls none 0 [] w44 sl_none (small_of sml_all.1)
    rw [chk_all.1] at pc
    have Pc := Lib.hid pc; clear pc
    go_wp2_with fail
    refine Pc.out.mono ?_
    rintro e w45 ⟨rfl, b45⟩
    have T45 := Lib.hid (T44.out.trans (b45.mono T44.out.size))
    have S1 := Lib.hid (S1.out.later b45)
    have S2 := Lib.hid (S2.out.later b45)
    have S3 := Lib.hid (S3.out.later b45)
    have S4 := Lib.hid (S4.out.later b45)
    have S5 := Lib.hid (S5.out.later b45)
    have S6 := Lib.hid (S6.out.later b45)
    have S7 := Lib.hid (S7.out.later b45)
    clear b45 Pc
    have pc := rCheck_calls _ _ (spoilR 65 1 0 0 G1 longP) w45 S1.out (small_of sml_all.2.1)
    rw [chk_all.2.1] at pc
    have Pc := Lib.hid pc; clear pc
    go_wp2_with fail
    refine Pc.out.mono ?_
    rintro e w46 ⟨rfl, b46⟩
    have T46 := Lib.hid (T45.out.trans (b46.mono T45.out.size))
    have S2 := Lib.hid (S2.out.later b46)
    have S3 := Lib.hid (S3.out.later b46)
    have S4 := Lib.hid (S4.out.later b46)
    have S5 := Lib.hid (S5.out.later b46)
    have S6 := Lib.hid (S6.out.later b46)
    have S7 := Lib.hid (S7.out.later b46)
    clear b46 Pc
    have pc := rCheck_calls _ _ bigR _ (big_sl (Blk.new w46 35 bigC)) (small_of sml_all.2.2.1)
    rw [chk_all.2.2.1] at pc
    rw [show bigR.length = 41 from List.length_replicate] at pc
    have Pc := Lib.hid pc; clear pc
    go_wp2_with fail
    refine Pc.out.mono ?_
    rintro e w47 ⟨rfl, b47⟩
    have b47 := (bl (w := w46) (.cells bigC 35)).trans (b47.mono (bl _).size)
    have T47 := Lib.hid (T46.out.trans (b47.mono T46.out.size))
    have S2 := Lib.hid (S2.out.later b47)
    have S3 := Lib.hid (S3.out.later b47)
    have S4 := Lib.hid (S4.out.later b47)
    have S5 := Lib.hid (S5.out.later b47)
    have S6 := Lib.hid (S6.out.later b47)
    have S7 := Lib.hid (S7.out.later b47)
    clear b47 Pc
    have pc := rCheck_calls _ _ (spoilR 65 1 70 0 G1 P1) w47 S2.out (small_of sml_all.2.2.2.1)
    rw [chk_all.2.2.2.1] at pc
    have Pc := Lib.hid pc; clear pc
    go_wp2_with fail
    refine Pc.out.mono ?_
    rintro e w48 ⟨rfl, b48⟩
    have T48 := Lib.hid (T47.out.trans (b48.mono T47.out.size))
    have S3 := Lib.hid (S3.out.later b48)
    have S4 := Lib.hid (S4.out.later b48)
    have S5 := Lib.hid (S5.out.later b48)
    have S6 := Lib.hid (S6.out.later b48)
    have S7 := Lib.hid (S7.out.later b48)
    clear b48 Pc
    have pc := rCheck_calls _ _ (spoilR 65 1 0 1 G1 P1) w48 S3.out (small_of sml_all.2.2.2.2.1)
    rw [chk_all.2.2.2.2.1] at pc
    have Pc := Lib.hid pc; clear pc
    go_wp2_with fail
    refine Pc.out.mono ?_
    rintro e w49 ⟨rfl, b49⟩
    have T49 := Lib.hid (T48.out.trans (b49.mono T48.out.size))
    have S4 := Lib.hid (S4.out.later b49)
    have S5 := Lib.hid (S5.out.later b49)
    have S6 := Lib.hid (S6.out.later b49)
    have S7 := Lib.hid (S7.out.later b49)
    clear b49 Pc
    have pc := rCheck_calls _ _ (spoilR 65 1 0 0 G1 openP) w49 S4.out (small_of sml_all.2.2.2.2.2.1)
    rw [chk_all.2.2.2.2.2.1] at pc
    have Pc := Lib.hid pc; clear pc
    go_wp2_with fail
    refine Pc.out.mono ?_
    rintro e w50 ⟨rfl, b50⟩
    have T50 := Lib.hid (T49.out.trans (b50.mono T49.out.size))
    have S5 := Lib.hid (S5.out.later b50)
    have S6 := Lib.hid (S6.out.later b50)
    have S7 := Lib.hid (S7.out.later b50)
    clear b50 Pc
    have pc := rCheck_calls _ _ (spoilR 65 2 0 0 G1 P1) w50 S5.out (small_of sml_all.2.2.2.2.2.2.1)
    rw [chk_all.2.2.2.2.2.2.1] at pc
    have Pc := Lib.hid pc; clear pc
    go_wp2_with fail
    refine Pc.out.mono ?_
    rintro e w51 ⟨rfl, b51⟩
    have T51 := Lib.hid (T50.out.trans (b51.mono T50.out.size))
    have S6 := Lib.hid (S6.out.later b51)
    have S7 := Lib.hid (S7.out.later b51)
    clear b51 Pc
    have pc := rCheck_calls _ _ (spoilR 65 1 0 0 [⟨-1000001, [1]⟩] P1) w51 S6.out (small_of sml_all.2.2.2.2.2.2.2.1)
    rw [chk_all.2.2.2.2.2.2.2.1] at pc
    have Pc := Lib.hid pc; clear pc
    go_wp2_with fail
    refine Pc.out.mono ?_
    rintro e w52 ⟨rfl, b52⟩
    have T52 := Lib.hid (T51.out.trans (b52.mono T51.out.size))
    have S7 := Lib.hid (S7.out.later b52)
    clear b52 Pc
    have pc := rCheck_calls _ _ (spoilR 91 1 0 0 G1 P1) w52 S7.out (small_of sml_all.2.2.2.2.2.2.2.2.1)
    rw [chk_all.2.2.2.2.2.2.2.2] at pc
    have Pc := Lib.hid pc; clear pc
    go_wp2_with fail
    refine Pc.out.mono ?_
    rintro e w53 ⟨rfl, b53⟩
    have T53 := Lib.hid (T52.out.trans (b53.mono T52.out.size))
    clear b53 Pc
    go_wp2_with fail
    go_meet
    exact ⟨rfl, T53.out⟩
  case rest =>
  obtain ⟨rfl, hb⟩ := hcut
  clear hmk2 S1 S2 S3 S4 S5 S6 S7 T44
  obtain ⟨w60, rfl⟩ : ∃ W : World, W = wc := ⟨_, rfl⟩
  have T60 := Lib.hid hb.out; clear hb
  obtain ⟨v1, hv1⟩ : ∃ v, valueF ⟨0, [2]⟩ [500000001] = (v, 16) := ⟨_, Prod.ext rfl val_all.1⟩
  obtain ⟨v2, hv2⟩ : ∃ v, valueF ⟨0, [2]⟩ [] = (v, 8) := ⟨_, Prod.ext rfl val_all.2.1⟩
  obtain ⟨v3, hv3⟩ : ∃ v, valueF ⟨0, [2]⟩ [1000000001] = (v, 8) := ⟨_, Prod.ext rfl val_all.2.2.1⟩
  have hv4 := val_all.2.2.2
  have Hv1 := Lib.hid hv1; clear hv1
  have Hv2 := Lib.hid hv2; clear hv2
  have Hv3 := Lib.hid hv3; clear hv3
  have Hv4 := Lib.hid hv4; clear hv4
  go_wp2_with fail
  refine (lawForm_calls 0 2 w60 Fi0.out Fi2.out).mono ?_
  rintro e w61 ⟨g, rfl, s, b⟩
  have T61 := Lib.hid (T60.out.trans (b.mono T60.out.size))
  have pv := value_ints 0 0 2 500000001 v1 16 g w61 s.out rfl Fi0.out (fits_i64 (by decide)) Hv1.out
  have Pv := Lib.hid pv; clear pv
  clear s b
  go_wp2_with fail
  refine Pv.out.mono ?_
  rintro e w62 ⟨rfl, b⟩
  have T62 := Lib.hid (T61.out.trans (b.mono T61.out.size)); clear b Pv
  go_wp2_with fail
  refine (lawForm_calls 0 2 w62 Fi0.out Fi2.out).mono ?_
  rintro e w63 ⟨g, rfl, s, b⟩
  have T63 := Lib.hid (T62.out.trans (b.mono T62.out.size))
  have pv := value_calls (some ⟨g, 0, none⟩) 1 ⟨0, [2]⟩ none 0 [] w63 s.out sl_none Fi0.out
  rw [Hv2.out] at pv
  have Pv := Lib.hid pv; clear pv
  clear s b
  go_wp2_with fail
  refine Pv.out.mono ?_
  rintro e w64 ⟨rfl, b⟩
  have T64 := Lib.hid (T63.out.trans (b.mono T63.out.size)); clear b Pv
  go_wp2_with fail
  refine (lawForm_calls 0 2 w64 Fi0.out Fi2.out).mono ?_
  rintro e w65 ⟨g, rfl, s, b⟩
  have T65 := Lib.hid (T64.out.trans (b.mono T64.out.size))
  have pv := value_ints 0 0 2 1000000001 v3 8 g w65 s.out rfl Fi0.out (fits_i64 (by decide)) Hv3.out
  have Pv := Lib.hid pv; clear pv
  clear s b
  go_wp2_with fail
  refine Pv.out.mono ?_
  rintro e w66 ⟨rfl, b⟩
  have T66 := Lib.hid (T65.out.trans (b.mono T65.out.size)); clear b Pv
  go_wp2_with fail
  refine (lawForm_calls 7 (-3) w66 Fi7.out Fim3.out).mono ?_
  rintro e w67 ⟨g, rfl, s, b⟩
  have T67 := Lib.hid (T66.out.trans (b.mono T66.out.size))
  have pv := value_ints 0 7 (-3) 5 (-8) 0 g w67 s.out rfl Fi7.out (fits_i64 (by decide)) Hv4.out
  have Pv := Lib.hid pv; clear pv
  clear s b
  go_wp2_with fail
  refine Pv.out.mono ?_
  rintro e w68 ⟨rfl, b⟩
  have T68 := Lib.hid (T67.out.trans (b.mono T67.out.size)); clear b Pv
  clear Hv1 Hv2 Hv3 Hv4
  go_wp2_with fail
  refine (lawForm_calls 0 2 w68 Fi0.out Fi2.out).mono ?_
  rintro e w69 ⟨ga, rfl, s, b⟩
  have G1 := Lib.hid (lit_new (E := pFrm) (w := w69) (t := 49) (cells := #[.int .i64 0, .slice (some ⟨ga, 0, none⟩) 1 1]) (xs := [⟨0, [2]⟩]) ⟨_, [], rfl, frm_R Fi0.out s.out rfl, rfl⟩ (by decide) (n := 1) rfl)
  have k1 := bl (w := w69) (.cells #[.int .i64 0, .slice (some ⟨ga, 0, none⟩) 1 1] 49)
  obtain ⟨x69, hx69⟩ : ∃ v, v = w69.alloc (.cells #[.int .i64 0, .slice (some ⟨ga, 0, none⟩) 1 1] 49) := ⟨_, rfl⟩
  rw [← hx69] at G1 k1
  have m1 := b.trans (k1.mono b.size)
  have T69 := Lib.hid (T68.out.trans (m1.mono T68.out.size))
  clear b s k1 m1
  have Hx69 := Lib.hid hx69; clear hx69
  go_wp2_with fail
  rw [← Hx69.out]
  refine (lawForm_calls 0 1 x69 Fi0.out Fi1.out).mono ?_
  rintro e w70 ⟨gb, rfl, s, b⟩
  have G2 := lit_new (E := pFrm) (w := w70) (t := 49) (cells := #[.int .i64 0, .slice (some ⟨gb, 0, none⟩) 1 1]) (xs := [⟨0, [1]⟩]) ⟨_, [], rfl, frm_R Fi0.out s.out rfl, rfl⟩ (by decide) (n := 1) rfl
  have k2 := bl (w := w70) (.cells #[.int .i64 0, .slice (some ⟨gb, 0, none⟩) 1 1] 49)
  obtain ⟨x70, hx70⟩ : ∃ v, v = w70.alloc (.cells #[.int .i64 0, .slice (some ⟨gb, 0, none⟩) 1 1] 49) := ⟨_, rfl⟩
  rw [← hx70] at G2 k2
  have m2 := b.trans (k2.mono b.size)
  have T70 := T69.out.trans (m2.mono T69.out.size)
  have G12 := G1.out.later m2
  have G3 := lit_new (E := pShp) (w := x70) (t := 47) (cells := #[.int .u8 70, .slice (some ⟨w69.heap.size, 0, none⟩) 1 1, .int .u8 70, .slice (some ⟨w70.heap.size, 0, none⟩) 1 1]) (xs := [⟨70, [⟨0, [2]⟩]⟩, ⟨70, [⟨0, [1]⟩]⟩]) ⟨_, [.int .u8 70, .slice (some ⟨w70.heap.size, 0, none⟩) 1 1], rfl, shp_R (fits_u8 (n := 70) (by decide)) G12 rfl, _, [], rfl, shp_R (fits_u8 (n := 70) (by decide)) G2 rfl, rfl⟩ (by decide) (n := 2) rfl
  have k3 := bl (w := x70) (.cells #[.int .u8 70, .slice (some ⟨w69.heap.size, 0, none⟩) 1 1, .int .u8 70, .slice (some ⟨w70.heap.size, 0, none⟩) 1 1] 47)
  obtain ⟨y70, hy70⟩ : ∃ v, v = x70.alloc (.cells #[.int .u8 70, .slice (some ⟨w69.heap.size, 0, none⟩) 1 1, .int .u8 70, .slice (some ⟨w70.heap.size, 0, none⟩) 1 1] 47) := ⟨_, rfl⟩
  rw [← hy70] at G3 k3
  have T70' := T70.trans (k3.mono T70.size)
  have G4 := lit_new (E := pRul) (w := y70) (t := 35) (cells := #[.int .u8 70, .int .i64 1, .int .u8 0, .int .u8 0, .slice none 0 0, .int .i64 0, .slice (some ⟨x70.heap.size, 0, none⟩) 2 2]) (xs := doubR) ⟨_, [], rfl, rul_R (fits_u8 (n := 70) (by decide)) Fi1.out sl_none G3 rfl rfl, rfl⟩ (by decide) (n := 1) rfl
  have k4 := bl (w := y70) (.cells #[.int .u8 70, .int .i64 1, .int .u8 0, .int .u8 0, .slice none 0 0, .int .i64 0, .slice (some ⟨x70.heap.size, 0, none⟩) 2 2] 35)
  obtain ⟨w71, hw71⟩ : ∃ v, v = y70.alloc (.cells #[.int .u8 70, .int .i64 1, .int .u8 0, .int .u8 0, .slice none 0 0, .int .i64 0, .slice (some ⟨x70.heap.size, 0, none⟩) 2 2] 35) := ⟨_, rfl⟩
  rw [← hw71] at G4 k4
  have z1 : x70.heap.size = w70.heap.size + 1 := by rw [hx70]; simp
  have z2 : y70.heap.size = w70.heap.size + 1 + 1 := by rw [hy70]; simp [z1]
  have T71 := Lib.hid (T70'.trans (k4.mono T70'.size))
  have D71 := Lib.hid G4
  rw [z1] at hw71
  rw [z2] at D71
  clear b s k2 m2 T70 G12 G2 G3 k3 T70' G4 k4 G1 z1 z2
  have Hx70 := Lib.hid hx70; clear hx70
  have Hy70 := Lib.hid hy70; clear hy70
  have Hw71 := Lib.hid hw71; clear hw71
  go_upto_region 16 with fail
  rw [← Hx70.out, ← Hy70.out, ← Hw71.out]
  clear Hx70 Hy70 Hw71 Hx69
  have sM := small_of sml_all.2.2.2.2.2.2.2.2.2.1
  obtain ⟨X1, hX1⟩ : ∃ v, rStepF doubR [⟨70, [500000001]⟩] = (v, 16) := ⟨_, Prod.ext rfl run_all.1⟩
  obtain ⟨X2, hX2⟩ : ∃ v, rRunF doubR [⟨70, [0]⟩] 11 = (v, 4) := ⟨_, Prod.ext rfl run_all.2.1⟩
  obtain ⟨X3, hX3, hL3⟩ : ∃ v, rRunF doubR [⟨70, [0]⟩] 10 = (v, 0) ∧ v.length = 1024 := ⟨_, Prod.ext rfl run_all.2.2.1, run_all.2.2.2.1⟩
  obtain ⟨X4, hX4⟩ : ∃ v, rRunF doubR [] 31 = (v, 2) := ⟨_, Prod.ext rfl run_all.2.2.2.2.1⟩
  obtain ⟨X5, hX5⟩ : ∃ v, rRunF doubR [⟨93, []⟩] 31 = (v, 28) := ⟨_, Prod.ext rfl run_all.2.2.2.2.2⟩
  have SM := Lib.hid sM; clear sM
  have HX1 := Lib.hid hX1; clear hX1
  have HX2 := Lib.hid hX2; clear hX2
  have HX3 := Lib.hid hX3; clear hX3
  have HX4 := Lib.hid hX4; clear hX4
  have HX5 := Lib.hid hX5; clear hX5
  have HL3 := Lib.hid hL3; clear hL3
  obtain ⟨sm, bm⟩ := mod1_sl (w := w71) (cells := #[.int .i64 500000001]) 70 [500000001] (n := 1) rfl rfl (by decide) (fits_u8 (by decide)) (fun x hx => fits_i64 (by simp at hx; omega))
  have pr := rStep_calls _ _ doubR _ _ [⟨70, [500000001]⟩] _ (D71.out.later bm) sm SM.out
  unfold RStepPost at pr
  rw [HX1.out] at pr
  have Bm := Lib.hid bm; clear bm
  have Pr := Lib.hid pr; clear pr
  clear sm
  go_wp2_with fail
  refine Pr.out.mono ?_
  rintro e w72 ⟨AA, cc, rfl, _, b⟩
  have bb := Bm.out.trans (b.mono Bm.out.size)
  have T72 := Lib.hid (T71.out.trans (bb.mono T71.out.size))
  have D72 := Lib.hid (D71.out.later bb)
  clear b bb Bm Pr D71
  obtain ⟨sm, bm⟩ := mod1_sl (w := w72) (cells := #[.int .i64 0]) 70 [0] (n := 1) rfl rfl (by decide) (fits_u8 (by decide)) (fun x hx => fits_i64 (by simp at hx; omega))
  have pr := rRun_calls _ _ doubR _ _ [⟨70, [0]⟩] 11 _ (D72.out.later bm) sm SM.out (fits_i64 (by decide))
  unfold RRunPost at pr
  rw [HX2.out] at pr
  have Bm := Lib.hid bm; clear bm
  have Pr := Lib.hid pr; clear pr
  clear sm
  go_wp2_with fail
  refine Pr.out.mono ?_
  rintro e w73 ⟨AA, cc, rfl, _, b⟩
  have bb := Bm.out.trans (b.mono Bm.out.size)
  have T73 := Lib.hid (T72.out.trans (bb.mono T72.out.size))
  have D73 := Lib.hid (D72.out.later bb)
  clear b bb Bm Pr D72
  obtain ⟨sm, bm⟩ := mod1_sl (w := w73) (cells := #[.int .i64 0]) 70 [0] (n := 1) rfl rfl (by decide) (fits_u8 (by decide)) (fun x hx => fits_i64 (by simp at hx; omega))
  have pr := rRun_calls _ _ doubR _ _ [⟨70, [0]⟩] 10 _ (D73.out.later bm) sm SM.out (fits_i64 (by decide))
  unfold RRunPost at pr
  rw [HX3.out] at pr
  simp only [HL3.out] at pr
  have Bm := Lib.hid bm; clear bm
  have Pr := Lib.hid pr; clear pr
  clear sm
  go_wp2_with fail
  refine Pr.out.mono ?_
  rintro e w74 ⟨AA, cc, rfl, _, b⟩
  have bb := Bm.out.trans (b.mono Bm.out.size)
  have T74 := Lib.hid (T73.out.trans (bb.mono T73.out.size))
  have D74 := Lib.hid (D73.out.later bb)
  clear b bb Bm Pr D73
  have sm : SlAt pMod (Old w74) w74 none 0 [] := sl_none
  have bm := Below.refl w74.heap.size w74
  have pr := rRun_calls _ _ doubR _ _ [] 31 _ (D74.out.later bm) sm SM.out (fits_i64 (by decide))
  unfold RRunPost at pr
  rw [HX4.out] at pr
  have Bm := Lib.hid bm; clear bm
  have Pr := Lib.hid pr; clear pr
  clear sm
  go_wp2_with fail
  refine Pr.out.mono ?_
  rintro e w75 ⟨AA, cc, rfl, _, b⟩
  have bb := Bm.out.trans (b.mono Bm.out.size)
  have T75 := Lib.hid (T74.out.trans (bb.mono T74.out.size))
  have D75 := Lib.hid (D74.out.later bb)
  clear b bb Bm Pr D74
  have sm := lit_new (E := pMod) (w := w75) (t := 44) (cells := #[.int .u8 93, .slice none 0 0]) (xs := [⟨93, []⟩]) ⟨_, [], rfl, mod0_R (fits_u8 (n := 93) (by decide)), rfl⟩ (by decide) (n := 1) rfl
  have bm := bl (w := w75) (.cells #[.int .u8 93, .slice none 0 0] 44)
  have pr := rRun_calls _ _ doubR _ _ [⟨93, []⟩] 31 _ (D75.out.later bm) sm SM.out (fits_i64 (by decide))
  unfold RRunPost at pr
  rw [HX5.out] at pr
  have Bm := Lib.hid bm; clear bm
  have Pr := Lib.hid pr; clear pr
  clear sm
  go_wp2_with fail
  refine Pr.out.mono ?_
  rintro e w76 ⟨AA, cc, rfl, _, b⟩
  have bb := Bm.out.trans (b.mono Bm.out.size)
  have T76 := Lib.hid (T75.out.trans (bb.mono T75.out.size))
  have D76 := Lib.hid (D75.out.later bb)
  clear b bb Bm Pr D75
  go_wp2_with fail
  refine (alive_calls w76 (HL.out.later T76.out)).mono ?_
  rintro e w77 ⟨rfl, b⟩
  have T77 := Lib.hid (T76.out.trans (b.mono T76.out.size)); clear b
  go_wp2
  go_ret
  exact ⟨rfl, T77.out⟩
end Go.Proofs.YtmcgfhgpldfknaaDoor
