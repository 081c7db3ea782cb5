/-
  GrowthNames, the walk of the law: it returns true.
-/
import Derived.Test.YtdjjhlnhfbcojaaNr
import Derived.Deep.DeepCutAuto
namespace Go.Proofs.Ytdjjhlnhfbcojaa
open Go.RowKit Go.Sort
set_option linter.unusedVariables false

theorem setCell_other (w : World) (a : Addr) (v : Value) (q : Nat) (h : q ≠ a.block) : (w.setCell a v).heap[q]? = w.heap[q]? := by
  unfold World.setCell; rw [Array.getElem?_modify, if_neg (Ne.symm h)]
theorem made_sl {α : Type} {E : Rp α} {F : Nat → Prop} {w : World} {g n : Nat} {t : TypeId} {z : Value} {x : α} (h : Blk w g t (madeCells z.cells (n * E.n))) (hR : E.R F w z.cells.toList x) (hF : F g) (hn : n ≤ maxLen) : SlAt E F w (some ⟨g, 0, none⟩) n (List.replicate n x) := by
  refine ⟨by simp, hn, (fun e => by cases e), fun i y hy => ?_⟩
  obtain ⟨hi, hye⟩ := List.getElem?_eq_some_iff.1 hy
  simp at hi hye
  subst hye
  refine ⟨g, 0, z.cells.toList, rfl, hF, hR, fun j c hj => ?_⟩
  have hj2 : j < z.cells.toList.length := (List.getElem?_eq_some_iff.1 hj).1
  have hl := E.len hR
  rw [h.cell]
  have hm : 0 + i * E.n + j < n * E.n := by
    have : (i + 1) * E.n ≤ n * E.n := Nat.mul_le_mul_right _ hi
    rw [Nat.add_mul] at this; omega
  have hz : z.cells[(0 + i * E.n + j) % z.cells.size]! = c := by
    have hs : z.cells.size = E.n := by simpa using hl
    rw [hs, Nat.zero_add, Nat.add_comm, Nat.add_mul_mod_self_right, Nat.mod_eq_of_lt (by omega)]
    have hj3 : z.cells[j]? = some c := by simpa using hj
    rw [getElem!_def, hj3]
  unfold madeCells
  rw [Array.getElem?_map, Array.getElem?_range, if_pos hm]
  exact congrArg some hz

def frm0 : Frm := ⟨0, []⟩
def argsR : List Rul := [⟨65, 0, 0, 0, [], 0, [⟨65, [frm0]⟩]⟩, bareRul 66 [⟨65, []⟩]]
def guardR : List Rul := [⟨65, 0, 0, 0, [frm0], 0, [⟨65, []⟩, ⟨66, []⟩]⟩, bareRul 66 [⟨65, []⟩]]
def zeroR : Rul := ⟨0, 0, 0, 0, [], 0, []⟩
def twoR : List Rul := [bareRul 65 (shapesF ⟨#[65, 65, 65, 65, 65, 65, 65, 65, 65, 65, 66, 66, 66, 66, 66, 66, 66, 66, 66, 66]⟩), bareRul 66 (shapesF ⟨#[65, 65, 65, 65, 65, 65, 65, 65, 65, 65, 66, 66, 66, 66, 66, 66, 66, 66, 66, 66]⟩)]
def zeroV : Value := .agg #[.int .u8 0, .int .i64 0, .int .u8 0, .int .u8 0, .slice none 0 0, .int .i64 0, .slice none 0 0]
def bigC : Array Value := madeCells zeroV.cells (41 * 7)
theorem info_rul : (Try.prog.info? 63).map (fun i => (i.zero, i.size, i.bytes)) = some (some zeroV, 7, 80) := by kernel_rfl
theorem make_big (wx : World) : (Instr.makeSlice 31 (.int .i64 41) (.int .i64 41)).run Try.prog wx = .ok (.slice (some ⟨wx.heap.size, 0, none⟩) 41 41) (wx.alloc (.cells bigC 63)) :=
  run_make_rowN Try.underlying31 info_rul 41 (by omega) (by omega) wx
theorem zero_R {F : Nat → Prop} {w : World} : pRul.R F w zeroV.cells.toList zeroR := ⟨none, 0, none, 0, rfl, ⟨fits_u8 (n := 0) (by decide), fits_i64 (n := 0) (by decide), fits_u8 (n := 0) (by decide), fits_u8 (n := 0) (by decide), fits_i64 (n := 0) (by decide)⟩, sl_none, sl_none⟩
theorem small_R {R : List Rul} (h : greatR R = false) : Small R := small_of h
abbrev Giv (A1 : Option Addr) (c1 : Nat) (A2 : Option Addr) (c2 : Nat) : Array Value := #[.int .u8 65, .int .i64 0, .int .u8 0, .int .u8 0, .slice none 0 0, .int .i64 0, .slice A1 2 c1, .int .u8 66, .int .i64 0, .int .u8 0, .int .u8 0, .slice none 0 0, .int .i64 0, .slice A2 1 c2]
/-- the examples' rules, their block known -/
structure GivAt (lo : Nat) (w : World) (g : Nat) (A1 : Option Addr) (c1 : Nat) (A2 : Option Addr) (c2 : Nat) : Prop where
  lg : lo ≤ g
  blk : Blk w g 63 (Giv A1 c1 A2 c2)
  s1 : SlAt pShp (fun q => lo ≤ q ∧ q < w.heap.size ∧ q ≠ g) w A1 c1 [⟨65, []⟩, ⟨66, []⟩]
  s2 : SlAt pShp (fun q => lo ≤ q ∧ q < w.heap.size ∧ q ≠ g) w A2 c2 [⟨65, []⟩]
set_option maxRecDepth 100000 in
set_option maxHeartbeats 2000000 in
theorem given2_calls (w : World) : Calls Try.prog 27 #[] w fun e w' => ∃ g A1 c1 A2 c2, e = .returned (.slice (some ⟨g, 0, none⟩) 2 2) ∧ Below w.heap.size w w' ∧ Hid (GivAt w.heap.size w' g A1 c1 A2 c2) := by
  go_enter Try.func27, Try.ntmps27
  go_wp2_with fail
  refine (shapes_calls pAB w (by decide)).mono ?_
  rintro e w1 ⟨A1, c1, rfl, b1, s1⟩
  go_wp2_with fail
  refine (shapes_calls pA w1 (by decide)).mono ?_
  rintro e w2 ⟨A2, c2, rfl, b2, s2⟩
  have hbw : Below w.heap.size w w2 := b1.trans (b2.mono b1.size)
  have h1 : SlAt pShp (fun q => w.heap.size ≤ q ∧ q < w2.heap.size) w2 A1 c1 [⟨65, []⟩, ⟨66, []⟩] := (s1.out.keep fun q hq => b2.block q hq.2).wide fun q hq => ⟨hq.1, Nat.lt_of_lt_of_le hq.2 b2.size⟩
  have h2 : SlAt pShp (fun q => w.heap.size ≤ q ∧ q < w2.heap.size) w2 A2 c2 [⟨65, []⟩] := s2.out.wide fun q hq => ⟨Nat.le_trans b1.size hq.1, hq.2⟩
  have Hbw := Lib.hid hbw; clear hbw
  have H1 := Lib.hid h1; clear h1
  have H2 := Lib.hid h2; clear h2
  clear b1 b2 s1 s2
  go_wp2
  go_ret
  have hz := Hbw.out.size
  exact ⟨w2.heap.size, A1, c1, A2, c2, rfl, Hbw.out.alloc Hbw.out.size _, hz, Blk.new _ _ _, (H1.out.keep fun q hq => Below.heap_alloc _ _ _ hq.2).wide fun q hq => ⟨hq.1, by have := hq.2; simp; omega, Nat.ne_of_lt hq.2⟩,
    (H2.out.keep fun q hq => Below.heap_alloc _ _ _ hq.2).wide fun q hq => ⟨hq.1, by have := hq.2; simp; omega, Nat.ne_of_lt hq.2⟩⟩
theorem giv_cells {F : Nat → Prop} {w : World} {A1 : Option Addr} {c1 : Nat} {A2 : Option Addr} {c2 : Nat} (h1 : SlAt pShp F w A1 c1 [⟨65, []⟩, ⟨66, []⟩]) (h2 : SlAt pShp F w A2 c2 [⟨65, []⟩]) : CellsAre pRul F w (Giv A1 c1 A2 c2).toList givenR :=
  ⟨[.int .u8 65, .int .i64 0, .int .u8 0, .int .u8 0, .slice none 0 0, .int .i64 0, .slice A1 2 c1], [.int .u8 66, .int .i64 0, .int .u8 0, .int .u8 0, .slice none 0 0, .int .i64 0, .slice A2 1 c2], rfl, bare_R (fits_u8 (n := 65) (by decide)) h1 rfl,
   [.int .u8 66, .int .i64 0, .int .u8 0, .int .u8 0, .slice none 0 0, .int .i64 0, .slice A2 1 c2], [], rfl, bare_R (fits_u8 (n := 66) (by decide)) h2 rfl, rfl⟩
theorem giv_own {lo : Nat} {w : World} {g : Nat} {A1 : Option Addr} {c1 : Nat} {A2 : Option Addr} {c2 : Nat} (h : GivAt lo w g A1 c1 A2 c2) : Own pRul 63 lo (lo ≤ ·) w (.slice (some ⟨g, 0, none⟩) 2 2) givenR := by
  have hF : ∀ q, (lo ≤ q ∧ q < w.heap.size ∧ q ≠ g) → lo ≤ q ∧ q < w.heap.size ∧ some q ≠ (Value.slice (some ⟨g, 0, none⟩) 2 2).ownBlock := fun q hq => ⟨hq.1, hq.2.1, by simpa [Value.ownBlock] using hq.2.2⟩
  exact ⟨(Giv A1 c1 A2 c2).toList, ⟨rfl, .inr ⟨g, 2, Giv A1 c1 A2 c2, rfl, h.lg, h.blk, Nat.le_refl _, by decide, rfl, rfl⟩⟩, giv_cells (h.s1.wide hF) (h.s2.wide hF)⟩
theorem GivAt.later {lo : Nat} {w w' : World} {g : Nat} {A1 : Option Addr} {c1 : Nat} {A2 : Option Addr} {c2 : Nat} (h : GivAt lo w g A1 c1 A2 c2) (hb : Below w.heap.size w w') : GivAt lo w' g A1 c1 A2 c2 :=
  ⟨h.lg, h.blk.same (hb.block _ h.blk.lt), (h.s1.keep fun q hq => hb.block q hq.2.1).wide fun q hq => ⟨hq.1, Nat.lt_of_lt_of_le hq.2.1 hb.size, hq.2.2⟩, (h.s2.keep fun q hq => hb.block q hq.2.1).wide fun q hq => ⟨hq.1, Nat.lt_of_lt_of_le hq.2.1 hb.size, hq.2.2⟩⟩
theorem rows_1 {W : World} {g : Nat} {t t2 : TypeId} {a : List Int} (ha : Blk W g t (a.map (Value.int .i64)).toArray) (ht : Blk W (g + 1) t2 #[.slice (some ⟨g, 0, none⟩) a.length a.length])
    (h : (a.all fun x => decide (-9223372036854775808 ≤ x) && decide (x ≤ 9223372036854775807)) = true) (hl : a.length ≤ 100) : SlAt (pSl (pI .i64)) (Old W) W (some ⟨g + 1, 0, none⟩) 1 [a] := by
  have s1 : SlAt (pI .i64) (Old W) W (some ⟨g, 0, none⟩) a.length a := sl_lit ha (by simpa using ints_lit h) ha.lt (by unfold maxLen; omega) rfl
  have hcs : CellsAre (pSl (pI .i64)) (Old W) W [.slice (some ⟨g, 0, none⟩) a.length a.length] [a] := ⟨[.slice (some ⟨g, 0, none⟩) a.length a.length], [], rfl, ⟨_, _, rfl, s1⟩, rfl⟩
  exact sl_lit ht hcs ht.lt (by unfold maxLen; simp) rfl
theorem rows_3 {W : World} {g : Nat} {t t2 : TypeId} {a b c : List Int} (ha : Blk W g t (a.map (Value.int .i64)).toArray) (hb : Blk W (g + 1) t (b.map (Value.int .i64)).toArray) (hc : Blk W (g + 2) t (c.map (Value.int .i64)).toArray) (ht : Blk W (g + 3) t2 #[.slice (some ⟨g, 0, none⟩) a.length a.length, .slice (some ⟨g + 1, 0, none⟩) b.length b.length, .slice (some ⟨g + 2, 0, none⟩) c.length c.length])
    (h : ((a ++ b ++ c).all fun x => decide (-9223372036854775808 ≤ x) && decide (x ≤ 9223372036854775807)) = true) (hl : a.length ≤ 100 ∧ b.length ≤ 100 ∧ c.length ≤ 100) : SlAt (pSl (pI .i64)) (Old W) W (some ⟨g + 3, 0, none⟩) 3 [a, b, c] := by
  rw [List.all_append, List.all_append, Bool.and_eq_true, Bool.and_eq_true] at h
  have s1 : SlAt (pI .i64) (Old W) W (some ⟨g, 0, none⟩) a.length a := sl_lit ha (by simpa using ints_lit h.1.1) ha.lt (by unfold maxLen; omega) rfl
  have s2 : SlAt (pI .i64) (Old W) W (some ⟨g + 1, 0, none⟩) b.length b := sl_lit hb (by simpa using ints_lit h.1.2) hb.lt (by unfold maxLen; omega) rfl
  have s3 : SlAt (pI .i64) (Old W) W (some ⟨g + 2, 0, none⟩) c.length c := sl_lit hc (by simpa using ints_lit h.2) hc.lt (by unfold maxLen; omega) rfl
  have hcs : CellsAre (pSl (pI .i64)) (Old W) W [.slice (some ⟨g, 0, none⟩) a.length a.length, .slice (some ⟨g + 1, 0, none⟩) b.length b.length, .slice (some ⟨g + 2, 0, none⟩) c.length c.length] [a, b, c] :=
    ⟨[.slice (some ⟨g, 0, none⟩) a.length a.length], [.slice (some ⟨g + 1, 0, none⟩) b.length b.length, .slice (some ⟨g + 2, 0, none⟩) c.length c.length], rfl, ⟨_, _, rfl, s1⟩, [.slice (some ⟨g + 1, 0, none⟩) b.length b.length], [.slice (some ⟨g + 2, 0, none⟩) c.length c.length], rfl, ⟨_, _, rfl, s2⟩, [.slice (some ⟨g + 2, 0, none⟩) c.length c.length], [], rfl, ⟨_, _, rfl, s3⟩, rfl⟩
  exact sl_lit ht hcs ht.lt (by unfold maxLen; simp) rfl
theorem mod1_lit {W : World} {g : Nat} {t t2 : TypeId} (ha : Blk W g t #[.int .i64 1]) (hb : Blk W (g + 1) t2 #[.int .u8 65, .slice (some ⟨g, 0, none⟩) 1 1]) : SlAt pMod (Old W) W (some ⟨g + 1, 0, none⟩) 1 [⟨65, [1]⟩] := by
  have s1 : SlAt (pI .i64) (Old W) W (some ⟨g, 0, none⟩) 1 [1] := sl_lit ha (by simpa using ints_lit (xs := [1]) (by decide)) ha.lt (by decide) rfl
  have hcs : CellsAre pMod (Old W) W [.int .u8 65, .slice (some ⟨g, 0, none⟩) 1 1] [⟨65, [1]⟩] := ⟨[.int .u8 65, .slice (some ⟨g, 0, none⟩) 1 1], [], rfl, ⟨_, _, rfl, fits_u8 (n := 65) (by decide), s1⟩, rfl⟩
  exact sl_lit hb hcs hb.lt (by decide) rfl

theorem rul_zero : zeroR = ⟨0, 0, 0, 0, [], 0, []⟩ := rfl
set_option maxRecDepth 100000 in
set_option maxHeartbeats 16000000 in
theorem growthNames_walk (w : World) : Calls Try.prog 6 #[] w (OkPost w) := by
  have f65 : Fits .u8 65 := fits_u8 (by decide)
  have f67 : Fits .u8 67 := fits_u8 (by decide)
  have f91 : Fits .u8 91 := fits_u8 (by decide)
  have hmb := make_big
  go_enter Try.func6, Try.ntmps6
  go_wp2_with fail
  refine (given2_calls w).mono ?_
  rintro e w1 ⟨g1, A1, c1, A2, c2, rfl, b1, s1⟩
  have B1 := Lib.hid b1
  clear b1
  have T1 := Lib.hid B1.out
  go_wp2_with fail
  refine (given2_calls w1).mono ?_
  rintro e w2 ⟨g2, A3, c3, A4, c4, rfl, b2, s2⟩
  have hl0 := s1.out.blk.lt
  have hs2 := s1.out.s2
  have s1 := s1.out.later b2
  have hl1 := s1.blk.lt
  have hl2 := s2.out.blk.lt
  have hlg := s2.out.lg
  have hlg1 := s1.lg
  have B2 := Lib.hid b2
  clear b2
  have T2 := Lib.hid ((T1.out).trans (B2.out.mono (T1.out).size))
  have hg12 : g1 ≠ g2 := by omega
  have S1 := Lib.hid s1; clear s1
  have hba := (S1.out.blk.alloc (.cells #[.int .i64 0, .slice none 0 0] 57)).alloc (.cells #[.int .u8 65, .slice (some ⟨w2.heap.size, 0, none⟩) 1 1] 60)
  have hc1 : ((w2.alloc (.cells #[.int .i64 0, .slice none 0 0] 57)).alloc (.cells #[.int .u8 65, .slice (some ⟨w2.heap.size, 0, none⟩) 1 1] 60)).cell? ⟨g1, 6, none⟩ = some (.slice A1 2 c1) := hba.cell 6
  have hf1 : ((w2.alloc (.cells #[.int .i64 0, .slice none 0 0] 57)).alloc (.cells #[.int .u8 65, .slice (some ⟨w2.heap.size, 0, none⟩) 1 1] 60)).frozen? ⟨g1, 6, none⟩ = false := hba.free 6
  have q1 : Blk (w2.setCell ⟨g1, 6, none⟩ (.slice (some ⟨w2.heap.size + 1, 0, none⟩) 1 1)) g1 63 #[.int .u8 65, .int .i64 0, .int .u8 0, .int .u8 0, .slice none 0 0, .int .i64 0, .slice (some ⟨w2.heap.size + 1, 0, none⟩) 1 1, .int .u8 66, .int .i64 0, .int .u8 0, .int .u8 0, .slice none 0 0, .int .i64 0, .slice A2 1 c2] := S1.out.blk.set 6 (.slice (some ⟨w2.heap.size + 1, 0, none⟩) 1 1)
  have ko : ∀ q, q ≠ g1 → (w2.setCell ⟨g1, 6, none⟩ (.slice (some ⟨w2.heap.size + 1, 0, none⟩) 1 1)).heap[q]? = w2.heap[q]? := fun q hq => setCell_other _ _ _ _ hq
  have hszs : (w2.setCell ⟨g1, 6, none⟩ (.slice (some ⟨w2.heap.size + 1, 0, none⟩) 1 1)).heap.size = w2.heap.size := by simp [World.setCell]
  obtain ⟨w3, hw3⟩ : ∃ w3, w3 = (((w2.setCell ⟨g1, 6, none⟩ (.slice (some ⟨w2.heap.size + 1, 0, none⟩) 1 1)).alloc (.cells #[.int .i64 0, .slice none 0 0] 57)).alloc (.cells #[.int .u8 65, .slice (some ⟨w2.heap.size, 0, none⟩) 1 1] 60)) := ⟨_, rfl⟩
  have hb23 : Below (w2.setCell ⟨g1, 6, none⟩ (.slice (some ⟨w2.heap.size + 1, 0, none⟩) 1 1)).heap.size (w2.setCell ⟨g1, 6, none⟩ (.slice (some ⟨w2.heap.size + 1, 0, none⟩) 1 1)) w3 := by rw [hw3]; exact chainW_below [.cells #[.int .i64 0, .slice none 0 0] 57, .cells #[.int .u8 65, .slice (some ⟨w2.heap.size, 0, none⟩) 1 1] 60] _
  have k1 : Blk w3 w2.heap.size 57 #[.int .i64 0, .slice none 0 0] := by
    have := chainW_blk [.cells #[.int .i64 0, .slice none 0 0] 57, .cells #[.int .u8 65, .slice (some ⟨w2.heap.size, 0, none⟩) 1 1] 60] (w2.setCell ⟨g1, 6, none⟩ (.slice (some ⟨w2.heap.size + 1, 0, none⟩) 1 1)) 0 _ _ rfl
    rw [hszs] at this
    rw [hw3]; exact this
  have k2 : Blk w3 (w2.heap.size + 1) 60 #[.int .u8 65, .slice (some ⟨w2.heap.size, 0, none⟩) 1 1] := by
    have := chainW_blk [.cells #[.int .i64 0, .slice none 0 0] 57, .cells #[.int .u8 65, .slice (some ⟨w2.heap.size, 0, none⟩) 1 1] 60] (w2.setCell ⟨g1, 6, none⟩ (.slice (some ⟨w2.heap.size + 1, 0, none⟩) 1 1)) 1 _ _ rfl
    rw [hszs] at this
    rw [hw3]; exact this
  have hz3 : w2.heap.size + 2 ≤ w3.heap.size := by
    have := chainW_size [.cells #[.int .i64 0, .slice none 0 0] 57, .cells #[.int .u8 65, .slice (some ⟨w2.heap.size, 0, none⟩) 1 1] 60] (w2.setCell ⟨g1, 6, none⟩ (.slice (some ⟨w2.heap.size + 1, 0, none⟩) 1 1))
    rw [hszs] at this
    rw [hw3]; exact Nat.le_of_eq this.symm
  have ka : Blk w3 g1 63 _ := q1.same (hb23.block _ (by rw [hszs]; exact hl1))
  have kg : Blk w3 g2 63 (Giv A3 c3 A4 c4) := s2.out.blk.same ((hb23.block _ (by rw [hszs]; exact hl2)).trans (ko _ (Ne.symm hg12)))
  have t3 : Below w.heap.size w w3 := (T2.out.setCell (by exact hlg1) _).trans (hb23.mono (by rw [hszs]; exact T2.out.size))
  have ks : ∀ q, q < w2.heap.size → q ≠ g1 → w3.heap[q]? = w2.heap[q]? := fun q hq hn => (hb23.block q (by rw [hszs]; exact hq)).trans (ko q hn)
  have a2 : SlAt pShp (Old w3) w3 A2 c2 [⟨65, []⟩] := (S1.out.s2.keep fun q hq => ks q hq.2.1 hq.2.2).wide fun q hq => Nat.lt_of_lt_of_le hq.2.1 (by omega)
  have a3 : SlAt pShp (fun q => q < w3.heap.size ∧ q ≠ g2) w3 A3 c3 [⟨65, []⟩, ⟨66, []⟩] := (s2.out.s1.keep fun q hq => ks q hq.2.1 (by omega)).wide fun q hq => ⟨Nat.lt_of_lt_of_le hq.2.1 (by omega), hq.2.2⟩
  have a4 : SlAt pShp (fun q => q < w3.heap.size ∧ q ≠ g2) w3 A4 c4 [⟨65, []⟩] := (s2.out.s2.keep fun q hq => ks q hq.2.1 (by omega)).wide fun q hq => ⟨Nat.lt_of_lt_of_le hq.2.1 (by omega), hq.2.2⟩
  have hl3 : g1 < w3.heap.size := by omega
  have hl4 : g2 < w3.heap.size := by omega
  have A2s : Hid (SlAt pShp (fun q => q < w3.heap.size ∧ q ≠ g2) w3 A2 c2 [⟨65, []⟩]) := (hs2.keep fun q hq => (ks q (Nat.lt_of_lt_of_le hq.2.1 B2.out.size) hq.2.2).trans (B2.out.block q hq.2.1)).wide fun q hq => ⟨Nat.lt_of_lt_of_le (Nat.lt_of_lt_of_le hq.2.1 B2.out.size) (by omega), by have := hq.2.1; omega⟩
  clear hs2
  have A3s := Lib.hid a3
  have A4s := Lib.hid a4
  clear a2 a3 a4
  have Hg12 := Lib.hid hg12; clear hg12
  have K1 := Lib.hid k1; clear k1
  have K2 := Lib.hid k2; clear k2
  have Ka := Lib.hid ka; clear ka
  have Kg := Lib.hid kg; clear kg
  have T3 := Lib.hid t3; clear t3
  go_upto_region 3 with fail
  rw [← hw3]
  clear hc1 hf1 hw3
  have hbb := Kg.out.alloc (.cells #[.int .i64 0, .slice none 0 0] 57)
  have hc1 : (w3.alloc (.cells #[.int .i64 0, .slice none 0 0] 57)).cell? ⟨g2, 4, none⟩ = some (.slice none 0 0) := hbb.cell 4
  have hf1 : (w3.alloc (.cells #[.int .i64 0, .slice none 0 0] 57)).frozen? ⟨g2, 4, none⟩ = false := hbb.free 4
  have q1 := Kg.out.set 4 (.slice (some ⟨w3.heap.size, 0, none⟩) 1 1)
  have ko : ∀ q, q ≠ g2 → (w3.setCell ⟨g2, 4, none⟩ (.slice (some ⟨w3.heap.size, 0, none⟩) 1 1)).heap[q]? = w3.heap[q]? := fun q hq => setCell_other _ _ _ _ hq
  have hszs : (w3.setCell ⟨g2, 4, none⟩ (.slice (some ⟨w3.heap.size, 0, none⟩) 1 1)).heap.size = w3.heap.size := by simp [World.setCell]
  obtain ⟨w4, hw4⟩ : ∃ w4, w4 = ((w3.setCell ⟨g2, 4, none⟩ (.slice (some ⟨w3.heap.size, 0, none⟩) 1 1)).alloc (.cells #[.int .i64 0, .slice none 0 0] 57)) := ⟨_, rfl⟩
  have hb34 : Below (w3.setCell ⟨g2, 4, none⟩ (.slice (some ⟨w3.heap.size, 0, none⟩) 1 1)).heap.size (w3.setCell ⟨g2, 4, none⟩ (.slice (some ⟨w3.heap.size, 0, none⟩) 1 1)) w4 := by rw [hw4]; exact (Below.refl _ _).alloc (Nat.le_refl _) _
  have hz4 : w3.heap.size + 1 ≤ w4.heap.size := by rw [hw4]; simp [World.setCell]
  have ks : ∀ q, q < w3.heap.size → q ≠ g2 → w4.heap[q]? = w3.heap[q]? := fun q hq hn => (hb34.block q (by rw [hszs]; exact hq)).trans (ko q hn)
  have n1 : Blk w4 w3.heap.size 57 #[.int .i64 0, .slice none 0 0] := by
    have := Blk.new (w3.setCell ⟨g2, 4, none⟩ (.slice (some ⟨w3.heap.size, 0, none⟩) 1 1)) 57 #[.int .i64 0, .slice none 0 0]
    rw [hszs] at this
    rw [hw4]; exact this
  have ng : Blk w4 g2 63 #[.int .u8 65, .int .i64 0, .int .u8 0, .int .u8 0, .slice (some ⟨w3.heap.size, 0, none⟩) 1 1, .int .i64 0, .slice A3 2 c3, .int .u8 66, .int .i64 0, .int .u8 0, .int .u8 0, .slice none 0 0, .int .i64 0, .slice A4 1 c4] := q1.same (hb34.block _ (by rw [hszs]; exact hl4))
  have na := Ka.out.same (ks _ hl3 Hg12.out)
  have nf := K1.out.same (ks _ (by omega) (by omega))
  have ns := K2.out.same (ks _ (by omega) (by omega))
  have t4 : Below w.heap.size w w4 := (T3.out.setCell (by have := T2.out.size; have := B1.out.size; exact Nat.le_trans B1.out.size hlg) _).trans (hb34.mono (by rw [hszs]; exact T3.out.size))
  have f1 : SlAt pFrm (Old w4) w4 (some ⟨w2.heap.size, 0, none⟩) 1 [frm0] := sl_lit nf (CellsAre.one (E := pFrm) (x := frm0) (cs := [.int .i64 0, .slice none 0 0]) ⟨none, 0, rfl, fits_i64 (n := 0) (by decide), sl_none⟩) nf.lt (by decide) rfl
  have f2 : SlAt pFrm (Old w4) w4 (some ⟨w3.heap.size, 0, none⟩) 1 [frm0] := sl_lit n1 (CellsAre.one (E := pFrm) (x := frm0) (cs := [.int .i64 0, .slice none 0 0]) ⟨none, 0, rfl, fits_i64 (n := 0) (by decide), sl_none⟩) n1.lt (by decide) rfl
  have h1 : SlAt pShp (Old w4) w4 (some ⟨w2.heap.size + 1, 0, none⟩) 1 [⟨65, [frm0]⟩] := sl_lit ns (CellsAre.one (E := pShp) (x := ⟨65, [frm0]⟩) (cs := [.int .u8 65, .slice (some ⟨w2.heap.size, 0, none⟩) 1 1]) ⟨some ⟨w2.heap.size, 0, none⟩, 1, rfl, fits_u8 (n := 65) (by decide), f1⟩) ns.lt (by decide) rfl
  have b2 : SlAt pShp (Old w4) w4 A2 c2 [⟨65, []⟩] := by
    refine (SlAt.keep (F := fun q => q < w3.heap.size ∧ q ≠ g2) ?_ fun q hq => ks q hq.1 hq.2).wide fun q hq => Nat.lt_of_lt_of_le hq.1 (by omega)
    exact A2s.out
  have b3 : SlAt pShp (Old w4) w4 A3 c3 [⟨65, []⟩, ⟨66, []⟩] := (A3s.out.keep fun q hq => ks q hq.1 hq.2).wide fun q hq => Nat.lt_of_lt_of_le hq.1 (by omega)
  have b4 : SlAt pShp (Old w4) w4 A4 c4 [⟨65, []⟩] := (A4s.out.keep fun q hq => ks q hq.1 hq.2).wide fun q hq => Nat.lt_of_lt_of_le hq.1 (by omega)
  have sa : SlAt pRul (Old w4) w4 (some ⟨g1, 0, none⟩) 2 argsR := sl_lit na (CellsAre.append (CellsAre.one (E := pRul) (x := ⟨65, 0, 0, 0, [], 0, [⟨65, [frm0]⟩]⟩) (cs := [.int .u8 65, .int .i64 0, .int .u8 0, .int .u8 0, .slice none 0 0, .int .i64 0, .slice (some ⟨w2.heap.size + 1, 0, none⟩) 1 1])
    ⟨none, 0, some ⟨w2.heap.size + 1, 0, none⟩, 1, rfl, ⟨fits_u8 (n := 65) (by decide), fits_i64 (n := 0) (by decide), fits_u8 (n := 0) (by decide), fits_u8 (n := 0) (by decide), fits_i64 (n := 0) (by decide)⟩, sl_none, h1⟩) (CellsAre.one (E := pRul) (bare_R (fits_u8 (n := 66) (by decide)) b2 rfl))) na.lt (by decide) rfl
  have sg : SlAt pRul (Old w4) w4 (some ⟨g2, 0, none⟩) 2 guardR := sl_lit ng (CellsAre.append (CellsAre.one (E := pRul) (x := ⟨65, 0, 0, 0, [frm0], 0, [⟨65, []⟩, ⟨66, []⟩]⟩) (cs := [.int .u8 65, .int .i64 0, .int .u8 0, .int .u8 0, .slice (some ⟨w3.heap.size, 0, none⟩) 1 1, .int .i64 0, .slice A3 2 c3])
    ⟨some ⟨w3.heap.size, 0, none⟩, 1, A3, c3, rfl, ⟨fits_u8 (n := 65) (by decide), fits_i64 (n := 0) (by decide), fits_u8 (n := 0) (by decide), fits_u8 (n := 0) (by decide), fits_i64 (n := 0) (by decide)⟩, f2, b3⟩) (CellsAre.one (E := pRul) (bare_R (fits_u8 (n := 66) (by decide)) b4 rfl))) ng.lt (by decide) rfl
  clear f1 f2 h1 b2 b3 b4 na nf ns ng n1 hlg hb34 ko hszs q1 ks hbb hz4 hz3 hl0 hl1 hl2 hl3 s2 S1 T2 B1 B2 T3 Ka Kg K1 K2 A2s A3s A4s T1
  have T4 := Lib.hid t4; clear t4
  have Sa := Lib.hid sa; clear sa
  have Sg := Lib.hid sg; clear sg
  go_upto_region 4 with fail
  rw [← hw4]
  clear hl4 hw4 hc1 hf1
  go_wp2_with fail
  refine (given_calls w4).mono ?_
  rintro e w5 ⟨A5, c5, rfl, b5, s5⟩
  have S5 := Lib.hid (sl_old s5.out fun q hq => hq.2); clear s5
  have B5 := Lib.hid b5
  clear b5
  have T5 := Lib.hid ((T4.out).trans (B5.out.mono (T4.out).size))
  go_wp2_with fail
  refine (gCheck_calls (A5) c5 givenR (⟨#[65]⟩ : ByteArray) w5 S5.out small_given (by decide)).mono ?_
  rintro e w6 ⟨rfl, b6⟩
  rw [show checkG givenR (⟨#[65]⟩ : ByteArray) = 8 from by decide +kernel]
  have B6 := Lib.hid b6
  clear b6
  have T6 := Lib.hid ((T5.out).trans (B6.out.mono (T5.out).size))
  go_wp2_with fail
  refine (given_calls w6).mono ?_
  rintro e w7 ⟨A7, c7, rfl, b7, s7⟩
  have S7 := Lib.hid (sl_old s7.out fun q hq => hq.2); clear s7
  have B7 := Lib.hid b7
  clear b7
  have T7 := Lib.hid ((T6.out).trans (B7.out.mono (T6.out).size))
  go_wp2_with fail
  refine (gCheck_calls (A7) c7 givenR (⟨#[66, 65]⟩ : ByteArray) w7 S7.out small_given (by decide)).mono ?_
  rintro e w8 ⟨rfl, b8⟩
  rw [show checkG givenR (⟨#[66, 65]⟩ : ByteArray) = 0 from by decide +kernel]
  have B8 := Lib.hid b8
  clear b8
  have T8 := Lib.hid ((T7.out).trans (B8.out.mono (T7.out).size))
  go_wp2_with fail
  refine (given_calls w8).mono ?_
  rintro e w9 ⟨A9, c9, rfl, b9, s9⟩
  have S9 := Lib.hid (sl_old s9.out fun q hq => hq.2); clear s9
  have B9 := Lib.hid b9
  clear b9
  have T9 := Lib.hid ((T8.out).trans (B9.out.mono (T8.out).size))
  go_wp2_with fail
  refine (gCheck_calls (A9) c9 givenR (⟨#[65, 65, 66]⟩ : ByteArray) w9 S9.out small_given (by decide)).mono ?_
  rintro e w10 ⟨rfl, b10⟩
  rw [show checkG givenR (⟨#[65, 65, 66]⟩ : ByteArray) = 8 from by decide +kernel]
  have B10 := Lib.hid b10
  clear b10
  have T10 := Lib.hid ((T9.out).trans (B10.out.mono (T9.out).size))
  go_wp2_with fail
  refine (given_calls w10).mono ?_
  rintro e w11 ⟨A11, c11, rfl, b11, s11⟩
  have S11 := Lib.hid (sl_old s11.out fun q hq => hq.2); clear s11
  have B11 := Lib.hid b11
  clear b11
  have T11 := Lib.hid ((T10.out).trans (B11.out.mono (T10.out).size))
  go_wp2_with fail
  refine (gCheck_calls (A11) c11 givenR (⟨#[65, 66, 91]⟩ : ByteArray) w11 S11.out small_given (by decide)).mono ?_
  rintro e w12 ⟨rfl, b12⟩
  rw [show checkG givenR (⟨#[65, 66, 91]⟩ : ByteArray) = 8 from by decide +kernel]
  have B12 := Lib.hid b12
  clear b12
  have T12 := Lib.hid ((T11.out).trans (B12.out.mono (T11.out).size))
  go_wp2_with fail
  refine (gCheck_calls (some ⟨g1, 0, none⟩) 2 argsR (⟨#[65, 66]⟩ : ByteArray) w12 ((((((((Sa.out.later B5.out).later B6.out).later B7.out).later B8.out).later B9.out).later B10.out).later B11.out).later B12.out) (small_R (by decide +kernel)) (by decide)).mono ?_
  rintro e w13 ⟨rfl, b13⟩
  rw [show checkG argsR (⟨#[65, 66]⟩ : ByteArray) = 8 from by decide +kernel]
  have B13 := Lib.hid b13
  clear b13
  have T13 := Lib.hid ((T12.out).trans (B13.out.mono (T12.out).size))
  go_wp2_with fail
  refine (gCheck_calls (some ⟨g2, 0, none⟩) 2 guardR (⟨#[65, 66]⟩ : ByteArray) w13 (((((((((Sg.out.later B5.out).later B6.out).later B7.out).later B8.out).later B9.out).later B10.out).later B11.out).later B12.out).later B13.out) (small_R (by decide +kernel)) (by decide)).mono ?_
  rintro e w14 ⟨rfl, b14⟩
  rw [show checkG guardR (⟨#[65, 66]⟩ : ByteArray) = 8 from by decide +kernel]
  have B14 := Lib.hid b14
  clear b14
  have T14 := Lib.hid ((T13.out).trans (B14.out.mono (T13.out).size))
  clear Sa Sg
  go_wp2_with fail
  refine (given_calls w14).mono ?_
  rintro e w15 ⟨A15, c15, rfl, b15, s15⟩
  have S15 := Lib.hid (sl_old s15.out fun q hq => hq.2); clear s15
  have B15 := Lib.hid b15
  clear b15
  have T15 := Lib.hid ((T14.out).trans (B15.out.mono (T14.out).size))
  go_wp2_with fail
  refine (gCheck_calls (A15) c15 givenR (⟨#[65, 66, 67, 68, 69, 70, 71, 72, 73, 74, 75, 76, 77]⟩ : ByteArray) w15 S15.out small_given (by decide)).mono ?_
  rintro e w16 ⟨rfl, b16⟩
  rw [show checkG givenR (⟨#[65, 66, 67, 68, 69, 70, 71, 72, 73, 74, 75, 76, 77]⟩ : ByteArray) = 4 from by decide +kernel]
  have B16 := Lib.hid b16
  clear b16
  have T16 := Lib.hid ((T15.out).trans (B16.out.mono (T15.out).size))
  obtain ⟨W16, hW16⟩ : ∃ W, W = (w16.alloc (.cells bigC 63)) := ⟨_, rfl⟩
  have tl16 : Below w16.heap.size w16 W16 := by rw [hW16]; exact chainW_below [.cells bigC 63] w16
  have bk16_0 : Blk W16 (w16.heap.size) 63 bigC := by rw [hW16]; exact chainW_blk [.cells bigC 63] w16 0 _ _ rfl
  have sz16 : SlAt pRul (Old W16) W16 (some ⟨w16.heap.size, 0, none⟩) 41 (List.replicate 41 zeroR) := made_sl (z := zeroV) bk16_0 zero_R bk16_0.lt (by decide)
  have Sz16 := Lib.hid sz16; clear sz16
  go_wp2_with fail
  have HW16 := Lib.hid hW16; clear hW16
  rw [← HW16.out]
  refine (gCheck_calls (some ⟨w16.heap.size, 0, none⟩) 41 (List.replicate 41 zeroR) (⟨#[65, 66, 67, 68, 69, 70, 71, 72, 73, 74, 75, 76, 77]⟩ : ByteArray) W16 Sz16.out (small_R (by decide +kernel)) (by decide)).mono ?_
  rintro e w17 ⟨rfl, b17⟩
  rw [show checkG (List.replicate 41 zeroR) (⟨#[65, 66, 67, 68, 69, 70, 71, 72, 73, 74, 75, 76, 77]⟩ : ByteArray) = 4 from by decide +kernel]
  clear Sz16
  have B17 := Lib.hid (tl16.trans (b17.mono tl16.size))
  clear b17 tl16
  clear bk16_0
  have T17 := Lib.hid ((T16.out).trans (B17.out.mono (T16.out).size))
  obtain ⟨W17, hW17⟩ : ∃ W, W = (w17.alloc (.cells #[.int .u8 91, .int .i64 0, .int .u8 0, .int .u8 0, .slice none 0 0, .int .i64 0, .slice none 0 0] 63)) := ⟨_, rfl⟩
  have tl17 : Below w17.heap.size w17 W17 := by rw [hW17]; exact chainW_below [.cells #[.int .u8 91, .int .i64 0, .int .u8 0, .int .u8 0, .slice none 0 0, .int .i64 0, .slice none 0 0] 63] w17
  have bk17_0 : Blk W17 (w17.heap.size) 63 #[.int .u8 91, .int .i64 0, .int .u8 0, .int .u8 0, .slice none 0 0, .int .i64 0, .slice none 0 0] := by rw [hW17]; exact chainW_blk [.cells #[.int .u8 91, .int .i64 0, .int .u8 0, .int .u8 0, .slice none 0 0, .int .i64 0, .slice none 0 0] 63] w17 0 _ _ rfl
  have sz17 : SlAt pRul (Old W17) W17 (some ⟨w17.heap.size, 0, none⟩) 1 [bareRul 91 []] := sl_lit bk17_0 (CellsAre.one (E := pRul) (bare_R (fits_u8 (n := 91) (by decide)) sl_none rfl)) bk17_0.lt (by decide) rfl
  have Sz17 := Lib.hid sz17; clear sz17
  go_wp2_with fail
  have HW17 := Lib.hid hW17; clear hW17
  rw [← HW17.out]
  refine (gCheck_calls (some ⟨w17.heap.size, 0, none⟩) 1 [bareRul 91 []] (⟨#[65, 66, 67, 68, 69, 70, 71, 72, 73, 74, 75, 76, 77]⟩ : ByteArray) W17 Sz17.out (small_R (by decide +kernel)) (by decide)).mono ?_
  rintro e w18 ⟨rfl, b18⟩
  rw [show checkG [bareRul 91 []] (⟨#[65, 66, 67, 68, 69, 70, 71, 72, 73, 74, 75, 76, 77]⟩ : ByteArray) = 8 from by decide +kernel]
  clear Sz17
  have B18 := Lib.hid (tl17.trans (b18.mono tl17.size))
  clear b18 tl17
  clear bk17_0
  have T18 := Lib.hid ((T17.out).trans (B18.out.mono (T17.out).size))
  go_wp2_with fail
  refine (given_calls w18).mono ?_
  rintro e w19 ⟨A19, c19, rfl, b19, s19⟩
  have S19 := Lib.hid (sl_old s19.out fun q hq => hq.2); clear s19
  have B19 := Lib.hid b19
  clear b19
  have T19 := Lib.hid ((T18.out).trans (B19.out.mono (T18.out).size))
  go_wp2_with fail
  refine (gMatrix_calls (A19) c19 givenR (⟨#[67, 66, 65]⟩ : ByteArray) w19 S19.out small_given (by decide)).mono ?_
  rintro e w20 ⟨A20, c20, rfl, b20, s20⟩
  rw [show matF givenR (⟨#[67, 66, 65]⟩ : ByteArray) = ([[1, 0, 0], [0, 0, 1], [0, 1, 1]], 0) from by decide +kernel] at s20 ⊢
  have S20 := Lib.hid (sl_old s20.out fun q hq => hq.2); clear s20
  have B20 := Lib.hid b20
  clear b20
  have T20 := Lib.hid ((T19.out).trans (B20.out.mono (T19.out).size))
  go_wp2_with fail
  refine (given2_calls w20).mono ?_
  rintro e w21 ⟨g1, A1, c1, A2, c2, rfl, b21, s21⟩
  have B21 := Lib.hid b21
  clear b21
  have T21 := Lib.hid ((T20.out).trans (B21.out.mono (T20.out).size))
  go_wp2_with fail
  refine (bush_calls w21).mono ?_
  rintro e w22 ⟨A22, c22, rfl, b22, s22⟩
  have Sf22 := s22
  have B22 := Lib.hid b22
  clear b22
  have T22 := Lib.hid ((T21.out).trans (B22.out.mono (T21.out).size))
  have ho := giv_own (s21.out.later B22.out)
  have hz22 := T22.out.size
  have hz22b : w20.heap.size ≤ w22.heap.size := by have := B21.out.size; have := B22.out.size; omega
  have hfb : ∀ q, (w21.heap.size ≤ q ∧ q < w22.heap.size) → w20.heap.size ≤ q ∧ q < w22.heap.size ∧ some q ≠ (Value.slice (some ⟨g1, 0, none⟩) 2 2).ownBlock := fun q hq => ⟨Nat.le_trans B21.out.size hq.1, hq.2, by have := s21.out.blk.lt; simp [Value.ownBlock]; omega⟩
  have Ho := Lib.hid ho; clear ho
  have Hfb := Lib.hid hfb; clear hfb
  go_wp2_with (at_builtin; refine wpList_cat (E := pRul) (xs := givenR) (v := .slice (some ⟨g1, 0, none⟩) 2 2) (base := w20.heap.size) (G := (w20.heap.size ≤ ·)) 31 63 zeroV 80 (.tmp 96) (.tmp 97) rfl rfl Try.underlying31 info_rul rfl (by decide) rfl Ho.out A22 c22 bushR rfl (fun q => w21.heap.size ≤ q ∧ q < w22.heap.size) Sf22.out Hfb.out 3 rfl (room_of (by decide)) (by decide) hz22b ?_; intro Ax cx w23 ox bx kx)
  have B23 := Lib.hid (show Below w20.heap.size w22 w23 from bx)
  have T23 := Lib.hid ((T22.out).trans (bx.mono (T20.out.size)))
  have sx := ox.fresh
  clear ox bx kx Ho Hfb
  obtain ⟨Ay, cy, hvy, hsy⟩ := sx
  simp only [Value.slice.injEq] at hvy
  obtain ⟨rfl, hjunk, rfl⟩ := hvy
  clear hjunk
  have Sx := Lib.hid (sl_old hsy fun q hq => hq.2)
  clear hsy
  have S20m := Lib.hid ((S20.out).keep (w' := w23) fun q hq => ((B23.out.block q (by have h1 : q < w20.heap.size := hq; exact h1)).trans (B22.out.block q (by have h1 : q < w20.heap.size := hq; exact Nat.lt_of_lt_of_le h1 B21.out.size))).trans (B21.out.block q hq))
  have S20n := Lib.hid (S20m.out.wide (F' := Old w23) fun q hq => Nat.lt_of_lt_of_le hq (Nat.le_trans hz22b B23.out.size))
  clear S20m S20 s21 hz22 hz22b
  go_wp2_with fail
  refine (gMatrix_calls (Ax) cx (givenR ++ bushR) (⟨#[65, 66]⟩ : ByteArray) w23 Sx.out (small_R (by decide +kernel)) (by decide)).mono ?_
  rintro e w24 ⟨A24, c24, rfl, b24, s24⟩
  rw [show matF (givenR ++ bushR) (⟨#[65, 66]⟩ : ByteArray) = ([[1, 1], [1, 0]], 0) from by decide +kernel] at s24 ⊢
  have S24 := Lib.hid (sl_old s24.out fun q hq => hq.2); clear s24
  have B24 := Lib.hid b24
  clear b24
  have T24 := Lib.hid ((T23.out).trans (B24.out.mono (T23.out).size))
  clear Sx
  go_wp2_with fail
  refine (given_calls w24).mono ?_
  rintro e w25 ⟨A25, c25, rfl, b25, s25⟩
  have S25 := Lib.hid (sl_old s25.out fun q hq => hq.2); clear s25
  have B25 := Lib.hid b25
  clear b25
  have T25 := Lib.hid ((T24.out).trans (B25.out.mono (T24.out).size))
  obtain ⟨W25, hW25⟩ : ∃ W, W = (w25.alloc (.cells #[.int .u8 67, .slice none 0 0] 65)) := ⟨_, rfl⟩
  have tl25 : Below w25.heap.size w25 W25 := by rw [hW25]; exact chainW_below [.cells #[.int .u8 67, .slice none 0 0] 65] w25
  have bk25_0 : Blk W25 (w25.heap.size) 65 #[.int .u8 67, .slice none 0 0] := by rw [hW25]; exact chainW_blk [.cells #[.int .u8 67, .slice none 0 0] 65] w25 0 _ _ rfl
  have sr25 : SlAt pRul (Old W25) W25 A25 c25 givenR := S25.out.later tl25
  have sm25 : SlAt pMod (Old W25) W25 (some ⟨w25.heap.size, 0, none⟩) 1 [⟨67, []⟩] := by rw [hW25]; exact mod_boxed 67 f67
  have Sr25 := Lib.hid sr25; clear sr25
  have Sm25 := Lib.hid sm25; clear sm25
  go_wp2_with fail
  have HW25 := Lib.hid hW25; clear hW25
  rw [← HW25.out]
  refine (gCounts_calls A25 c25 givenR (⟨#[65, 66]⟩ : ByteArray) (some ⟨w25.heap.size, 0, none⟩) 1 [⟨67, []⟩] (0) W25 Sr25.out small_given (by decide) Sm25.out (fits_i64 (by decide))).mono ?_
  rintro e w26 ⟨A26, c26, rfl, b26, s26⟩
  rw [show countsF givenR (⟨#[65, 66]⟩ : ByteArray) [⟨67, []⟩] (0) = ([], 8) from by decide +kernel]
  clear s26 Sr25 Sm25
  have B26 := Lib.hid (tl25.trans (b26.mono tl25.size))
  clear b26 tl25
  clear bk25_0
  have T26 := Lib.hid ((T25.out).trans (B26.out.mono (T25.out).size))
  go_wp2_with fail
  refine (given_calls w26).mono ?_
  rintro e w27 ⟨A27, c27, rfl, b27, s27⟩
  have S27 := Lib.hid (sl_old s27.out fun q hq => hq.2); clear s27
  have B27 := Lib.hid b27
  clear b27
  have T27 := Lib.hid ((T26.out).trans (B27.out.mono (T26.out).size))
  obtain ⟨W27, hW27⟩ : ∃ W, W = ((w27.alloc (.cells #[.int .i64 1] 3)).alloc (.cells #[.int .u8 65, .slice (some ⟨w27.heap.size, 0, none⟩) 1 1] 65)) := ⟨_, rfl⟩
  have tl27 : Below w27.heap.size w27 W27 := by rw [hW27]; exact chainW_below [.cells #[.int .i64 1] 3, .cells #[.int .u8 65, .slice (some ⟨w27.heap.size, 0, none⟩) 1 1] 65] w27
  have bk27_0 : Blk W27 (w27.heap.size) 3 #[.int .i64 1] := by rw [hW27]; exact chainW_blk [.cells #[.int .i64 1] 3, .cells #[.int .u8 65, .slice (some ⟨w27.heap.size, 0, none⟩) 1 1] 65] w27 0 _ _ rfl
  have bk27_1 : Blk W27 (w27.heap.size + 1) 65 #[.int .u8 65, .slice (some ⟨w27.heap.size, 0, none⟩) 1 1] := by rw [hW27]; exact chainW_blk [.cells #[.int .i64 1] 3, .cells #[.int .u8 65, .slice (some ⟨w27.heap.size, 0, none⟩) 1 1] 65] w27 1 _ _ rfl
  have sr27 : SlAt pRul (Old W27) W27 A27 c27 givenR := S27.out.later tl27
  have sm27 : SlAt pMod (Old W27) W27 (some ⟨w27.heap.size + 1, 0, none⟩) 1 [⟨65, [1]⟩] := mod1_lit bk27_0 bk27_1
  have Sr27 := Lib.hid sr27; clear sr27
  have Sm27 := Lib.hid sm27; clear sm27
  go_wp2_with fail
  have HW27 := Lib.hid hW27; clear hW27
  rw [← HW27.out]
  refine (gCounts_calls A27 c27 givenR (⟨#[65, 66]⟩ : ByteArray) (some ⟨w27.heap.size + 1, 0, none⟩) 1 [⟨65, [1]⟩] (0) W27 Sr27.out small_given (by decide) Sm27.out (fits_i64 (by decide))).mono ?_
  rintro e w28 ⟨A28, c28, rfl, b28, s28⟩
  rw [show countsF givenR (⟨#[65, 66]⟩ : ByteArray) [⟨65, [1]⟩] (0) = ([], 8) from by decide +kernel]
  clear s28 Sr27 Sm27
  have B28 := Lib.hid (tl27.trans (b28.mono tl27.size))
  clear b28 tl27
  clear bk27_0 bk27_1
  have T28 := Lib.hid ((T27.out).trans (B28.out.mono (T27.out).size))
  go_wp2_with fail
  refine (given_calls w28).mono ?_
  rintro e w29 ⟨A29, c29, rfl, b29, s29⟩
  have S29 := Lib.hid (sl_old s29.out fun q hq => hq.2); clear s29
  have B29 := Lib.hid b29
  clear b29
  have T29 := Lib.hid ((T28.out).trans (B29.out.mono (T28.out).size))
  go_wp2_with fail
  refine (gCounts_calls A29 c29 givenR (⟨#[65, 66]⟩ : ByteArray) (none) 0 [] (61) w29 S29.out small_given (by decide) sl_nil (fits_i64 (by decide))).mono ?_
  rintro e w30 ⟨A30, c30, rfl, b30, s30⟩
  rw [show countsF givenR (⟨#[65, 66]⟩ : ByteArray) [] (61) = ([], 2) from by decide +kernel]
  clear s30 
  have B30 := Lib.hid b30
  clear b30
  have T30 := Lib.hid ((T29.out).trans (B30.out.mono (T29.out).size))
  go_wp2_with fail
  refine (given_calls w30).mono ?_
  rintro e w31 ⟨A31, c31, rfl, b31, s31⟩
  have S31 := Lib.hid (sl_old s31.out fun q hq => hq.2); clear s31
  have B31 := Lib.hid b31
  clear b31
  have T31 := Lib.hid ((T30.out).trans (B31.out.mono (T30.out).size))
  go_wp2_with fail
  refine (gLength_calls A31 c31 givenR (⟨#[65, 66]⟩ : ByteArray) none 0 [] (-1) w31 S31.out small_given (by decide) sl_nil (fits_i64 (by decide))).mono ?_
  rintro e w32 ⟨rfl, b32⟩
  rw [show lengthF givenR (⟨#[65, 66]⟩ : ByteArray) [] (-1) = (0, 2) from by decide +kernel]
  have B32 := Lib.hid b32
  clear b32
  have T32 := Lib.hid ((T31.out).trans (B32.out.mono (T31.out).size))
  go_wp2_with fail
  refine (given_calls w32).mono ?_
  rintro e w33 ⟨A33, c33, rfl, b33, s33⟩
  have S33 := Lib.hid (sl_old s33.out fun q hq => hq.2); clear s33
  have B33 := Lib.hid b33
  clear b33
  have T33 := Lib.hid ((T32.out).trans (B33.out.mono (T32.out).size))
  obtain ⟨W33, hW33⟩ : ∃ W, W = (w33.alloc (.cells #[.int .u8 91, .slice none 0 0] 65)) := ⟨_, rfl⟩
  have tl33 : Below w33.heap.size w33 W33 := by rw [hW33]; exact chainW_below [.cells #[.int .u8 91, .slice none 0 0] 65] w33
  have bk33_0 : Blk W33 (w33.heap.size) 65 #[.int .u8 91, .slice none 0 0] := by rw [hW33]; exact chainW_blk [.cells #[.int .u8 91, .slice none 0 0] 65] w33 0 _ _ rfl
  have sr33 : SlAt pRul (Old W33) W33 A33 c33 givenR := S33.out.later tl33
  have sm33 : SlAt pMod (Old W33) W33 (some ⟨w33.heap.size, 0, none⟩) 1 [⟨91, []⟩] := by rw [hW33]; exact mod_boxed 91 f91
  have Sr33 := Lib.hid sr33; clear sr33
  have Sm33 := Lib.hid sm33; clear sm33
  go_wp2_with fail
  have HW33 := Lib.hid hW33; clear hW33
  rw [← HW33.out]
  refine (gCounts_calls A33 c33 givenR (⟨#[65, 66]⟩ : ByteArray) (some ⟨w33.heap.size, 0, none⟩) 1 [⟨91, []⟩] (61) W33 Sr33.out small_given (by decide) Sm33.out (fits_i64 (by decide))).mono ?_
  rintro e w34 ⟨A34, c34, rfl, b34, s34⟩
  rw [show countsF givenR (⟨#[65, 66]⟩ : ByteArray) [⟨91, []⟩] (61) = ([], 28) from by decide +kernel]
  clear s34 Sr33 Sm33
  have B34 := Lib.hid (tl33.trans (b34.mono tl33.size))
  clear b34 tl33
  clear bk33_0
  have T34 := Lib.hid ((T33.out).trans (B34.out.mono (T33.out).size))
  obtain ⟨W34, hW34⟩ : ∃ W, W = ((((((w34.alloc (.cells #[.int .i64 1, .int .i64 2] 2)).alloc (.cells #[.int .i64 0, .int .i64 1] 2)).alloc (.cells #[.slice (some ⟨w34.heap.size, 0, none⟩) 2 2, .slice (some ⟨w34.heap.size + 1, 0, none⟩) 2 2] 24)).alloc (.cells #[.int .i64 0, .int .i64 1] 2)).alloc (.cells #[.int .i64 1, .int .i64 0] 2)).alloc (.cells #[.slice (some ⟨w34.heap.size + 3, 0, none⟩) 2 2, .slice (some ⟨w34.heap.size + 4, 0, none⟩) 2 2] 24)) := ⟨_, rfl⟩
  have tl34 : Below w34.heap.size w34 W34 := by rw [hW34]; exact chainW_below [.cells #[.int .i64 1, .int .i64 2] 2, .cells #[.int .i64 0, .int .i64 1] 2, .cells #[.slice (some ⟨w34.heap.size, 0, none⟩) 2 2, .slice (some ⟨w34.heap.size + 1, 0, none⟩) 2 2] 24, .cells #[.int .i64 0, .int .i64 1] 2, .cells #[.int .i64 1, .int .i64 0] 2, .cells #[.slice (some ⟨w34.heap.size + 3, 0, none⟩) 2 2, .slice (some ⟨w34.heap.size + 4, 0, none⟩) 2 2] 24] w34
  have bk34_0 : Blk W34 (w34.heap.size) 2 #[.int .i64 1, .int .i64 2] := by rw [hW34]; exact chainW_blk [.cells #[.int .i64 1, .int .i64 2] 2, .cells #[.int .i64 0, .int .i64 1] 2, .cells #[.slice (some ⟨w34.heap.size, 0, none⟩) 2 2, .slice (some ⟨w34.heap.size + 1, 0, none⟩) 2 2] 24, .cells #[.int .i64 0, .int .i64 1] 2, .cells #[.int .i64 1, .int .i64 0] 2, .cells #[.slice (some ⟨w34.heap.size + 3, 0, none⟩) 2 2, .slice (some ⟨w34.heap.size + 4, 0, none⟩) 2 2] 24] w34 0 _ _ rfl
  have bk34_1 : Blk W34 (w34.heap.size + 1) 2 #[.int .i64 0, .int .i64 1] := by rw [hW34]; exact chainW_blk [.cells #[.int .i64 1, .int .i64 2] 2, .cells #[.int .i64 0, .int .i64 1] 2, .cells #[.slice (some ⟨w34.heap.size, 0, none⟩) 2 2, .slice (some ⟨w34.heap.size + 1, 0, none⟩) 2 2] 24, .cells #[.int .i64 0, .int .i64 1] 2, .cells #[.int .i64 1, .int .i64 0] 2, .cells #[.slice (some ⟨w34.heap.size + 3, 0, none⟩) 2 2, .slice (some ⟨w34.heap.size + 4, 0, none⟩) 2 2] 24] w34 1 _ _ rfl
  have bk34_2 : Blk W34 (w34.heap.size + 2) 24 #[.slice (some ⟨w34.heap.size, 0, none⟩) 2 2, .slice (some ⟨w34.heap.size + 1, 0, none⟩) 2 2] := by rw [hW34]; exact chainW_blk [.cells #[.int .i64 1, .int .i64 2] 2, .cells #[.int .i64 0, .int .i64 1] 2, .cells #[.slice (some ⟨w34.heap.size, 0, none⟩) 2 2, .slice (some ⟨w34.heap.size + 1, 0, none⟩) 2 2] 24, .cells #[.int .i64 0, .int .i64 1] 2, .cells #[.int .i64 1, .int .i64 0] 2, .cells #[.slice (some ⟨w34.heap.size + 3, 0, none⟩) 2 2, .slice (some ⟨w34.heap.size + 4, 0, none⟩) 2 2] 24] w34 2 _ _ rfl
  have bk34_3 : Blk W34 (w34.heap.size + 3) 2 #[.int .i64 0, .int .i64 1] := by rw [hW34]; exact chainW_blk [.cells #[.int .i64 1, .int .i64 2] 2, .cells #[.int .i64 0, .int .i64 1] 2, .cells #[.slice (some ⟨w34.heap.size, 0, none⟩) 2 2, .slice (some ⟨w34.heap.size + 1, 0, none⟩) 2 2] 24, .cells #[.int .i64 0, .int .i64 1] 2, .cells #[.int .i64 1, .int .i64 0] 2, .cells #[.slice (some ⟨w34.heap.size + 3, 0, none⟩) 2 2, .slice (some ⟨w34.heap.size + 4, 0, none⟩) 2 2] 24] w34 3 _ _ rfl
  have bk34_4 : Blk W34 (w34.heap.size + 4) 2 #[.int .i64 1, .int .i64 0] := by rw [hW34]; exact chainW_blk [.cells #[.int .i64 1, .int .i64 2] 2, .cells #[.int .i64 0, .int .i64 1] 2, .cells #[.slice (some ⟨w34.heap.size, 0, none⟩) 2 2, .slice (some ⟨w34.heap.size + 1, 0, none⟩) 2 2] 24, .cells #[.int .i64 0, .int .i64 1] 2, .cells #[.int .i64 1, .int .i64 0] 2, .cells #[.slice (some ⟨w34.heap.size + 3, 0, none⟩) 2 2, .slice (some ⟨w34.heap.size + 4, 0, none⟩) 2 2] 24] w34 4 _ _ rfl
  have bk34_5 : Blk W34 (w34.heap.size + 5) 24 #[.slice (some ⟨w34.heap.size + 3, 0, none⟩) 2 2, .slice (some ⟨w34.heap.size + 4, 0, none⟩) 2 2] := by rw [hW34]; exact chainW_blk [.cells #[.int .i64 1, .int .i64 2] 2, .cells #[.int .i64 0, .int .i64 1] 2, .cells #[.slice (some ⟨w34.heap.size, 0, none⟩) 2 2, .slice (some ⟨w34.heap.size + 1, 0, none⟩) 2 2] 24, .cells #[.int .i64 0, .int .i64 1] 2, .cells #[.int .i64 1, .int .i64 0] 2, .cells #[.slice (some ⟨w34.heap.size + 3, 0, none⟩) 2 2, .slice (some ⟨w34.heap.size + 4, 0, none⟩) 2 2] 24] w34 5 _ _ rfl
  have sa34 : SlAt (pSl (pI .i64)) (Old W34) W34 (some ⟨w34.heap.size + 2, 0, none⟩) 2 [[1, 2], [0, 1]] := lit_rows (g := (w34.heap.size)) (a := [1, 2]) (b := [0, 1]) bk34_0 bk34_1 bk34_2 (by decide) (by decide) (by decide) (by decide)
  have sb34 : SlAt (pSl (pI .i64)) (Old W34) W34 (some ⟨w34.heap.size + 5, 0, none⟩) 2 [[0, 1], [1, 0]] := lit_rows (g := (w34.heap.size + 3)) (a := [0, 1]) (b := [1, 0]) bk34_3 bk34_4 bk34_5 (by decide) (by decide) (by decide) (by decide)
  have Sa34 := Lib.hid sa34; clear sa34
  have Sb34 := Lib.hid sb34; clear sb34
  go_wp2_with fail
  have HW34 := Lib.hid hW34; clear hW34
  rw [← HW34.out]
  refine (times_calls (some ⟨w34.heap.size + 2, 0, none⟩) (some ⟨w34.heap.size + 5, 0, none⟩) 2 2 [[1, 2], [0, 1]] [[0, 1], [1, 0]] W34 Sa34.out Sb34.out).mono ?_
  rintro e w35 ht35
  obtain ⟨b35, A35, c35, rfl, s35⟩ := times_uniform ht35
  rw [show timesRes [[1, 2], [0, 1]] [[0, 1], [1, 0]] = (0, [[2, 1], [1, 0]]) from by decide +kernel] at s35 ⊢
  dsimp only at s35 ⊢
  have S35 := Lib.hid s35; clear s35 ht35 Sa34 Sb34
  have B35 := Lib.hid (tl34.trans (b35.mono tl34.size))
  clear b35 tl34
  clear bk34_0 bk34_1 bk34_2 bk34_3 bk34_4 bk34_5
  have T35 := Lib.hid ((T34.out).trans (B35.out.mono (T34.out).size))
  obtain ⟨W35, hW35⟩ : ∃ W, W = ((((((w35.alloc (.cells #[.int .i64 1000000000, .int .i64 1] 2)).alloc (.cells #[.int .i64 0, .int .i64 0] 2)).alloc (.cells #[.slice (some ⟨w35.heap.size, 0, none⟩) 2 2, .slice (some ⟨w35.heap.size + 1, 0, none⟩) 2 2] 24)).alloc (.cells #[.int .i64 1000000, .int .i64 0] 2)).alloc (.cells #[.int .i64 1, .int .i64 0] 2)).alloc (.cells #[.slice (some ⟨w35.heap.size + 3, 0, none⟩) 2 2, .slice (some ⟨w35.heap.size + 4, 0, none⟩) 2 2] 24)) := ⟨_, rfl⟩
  have tl35 : Below w35.heap.size w35 W35 := by rw [hW35]; exact chainW_below [.cells #[.int .i64 1000000000, .int .i64 1] 2, .cells #[.int .i64 0, .int .i64 0] 2, .cells #[.slice (some ⟨w35.heap.size, 0, none⟩) 2 2, .slice (some ⟨w35.heap.size + 1, 0, none⟩) 2 2] 24, .cells #[.int .i64 1000000, .int .i64 0] 2, .cells #[.int .i64 1, .int .i64 0] 2, .cells #[.slice (some ⟨w35.heap.size + 3, 0, none⟩) 2 2, .slice (some ⟨w35.heap.size + 4, 0, none⟩) 2 2] 24] w35
  have bk35_0 : Blk W35 (w35.heap.size) 2 #[.int .i64 1000000000, .int .i64 1] := by rw [hW35]; exact chainW_blk [.cells #[.int .i64 1000000000, .int .i64 1] 2, .cells #[.int .i64 0, .int .i64 0] 2, .cells #[.slice (some ⟨w35.heap.size, 0, none⟩) 2 2, .slice (some ⟨w35.heap.size + 1, 0, none⟩) 2 2] 24, .cells #[.int .i64 1000000, .int .i64 0] 2, .cells #[.int .i64 1, .int .i64 0] 2, .cells #[.slice (some ⟨w35.heap.size + 3, 0, none⟩) 2 2, .slice (some ⟨w35.heap.size + 4, 0, none⟩) 2 2] 24] w35 0 _ _ rfl
  have bk35_1 : Blk W35 (w35.heap.size + 1) 2 #[.int .i64 0, .int .i64 0] := by rw [hW35]; exact chainW_blk [.cells #[.int .i64 1000000000, .int .i64 1] 2, .cells #[.int .i64 0, .int .i64 0] 2, .cells #[.slice (some ⟨w35.heap.size, 0, none⟩) 2 2, .slice (some ⟨w35.heap.size + 1, 0, none⟩) 2 2] 24, .cells #[.int .i64 1000000, .int .i64 0] 2, .cells #[.int .i64 1, .int .i64 0] 2, .cells #[.slice (some ⟨w35.heap.size + 3, 0, none⟩) 2 2, .slice (some ⟨w35.heap.size + 4, 0, none⟩) 2 2] 24] w35 1 _ _ rfl
  have bk35_2 : Blk W35 (w35.heap.size + 2) 24 #[.slice (some ⟨w35.heap.size, 0, none⟩) 2 2, .slice (some ⟨w35.heap.size + 1, 0, none⟩) 2 2] := by rw [hW35]; exact chainW_blk [.cells #[.int .i64 1000000000, .int .i64 1] 2, .cells #[.int .i64 0, .int .i64 0] 2, .cells #[.slice (some ⟨w35.heap.size, 0, none⟩) 2 2, .slice (some ⟨w35.heap.size + 1, 0, none⟩) 2 2] 24, .cells #[.int .i64 1000000, .int .i64 0] 2, .cells #[.int .i64 1, .int .i64 0] 2, .cells #[.slice (some ⟨w35.heap.size + 3, 0, none⟩) 2 2, .slice (some ⟨w35.heap.size + 4, 0, none⟩) 2 2] 24] w35 2 _ _ rfl
  have bk35_3 : Blk W35 (w35.heap.size + 3) 2 #[.int .i64 1000000, .int .i64 0] := by rw [hW35]; exact chainW_blk [.cells #[.int .i64 1000000000, .int .i64 1] 2, .cells #[.int .i64 0, .int .i64 0] 2, .cells #[.slice (some ⟨w35.heap.size, 0, none⟩) 2 2, .slice (some ⟨w35.heap.size + 1, 0, none⟩) 2 2] 24, .cells #[.int .i64 1000000, .int .i64 0] 2, .cells #[.int .i64 1, .int .i64 0] 2, .cells #[.slice (some ⟨w35.heap.size + 3, 0, none⟩) 2 2, .slice (some ⟨w35.heap.size + 4, 0, none⟩) 2 2] 24] w35 3 _ _ rfl
  have bk35_4 : Blk W35 (w35.heap.size + 4) 2 #[.int .i64 1, .int .i64 0] := by rw [hW35]; exact chainW_blk [.cells #[.int .i64 1000000000, .int .i64 1] 2, .cells #[.int .i64 0, .int .i64 0] 2, .cells #[.slice (some ⟨w35.heap.size, 0, none⟩) 2 2, .slice (some ⟨w35.heap.size + 1, 0, none⟩) 2 2] 24, .cells #[.int .i64 1000000, .int .i64 0] 2, .cells #[.int .i64 1, .int .i64 0] 2, .cells #[.slice (some ⟨w35.heap.size + 3, 0, none⟩) 2 2, .slice (some ⟨w35.heap.size + 4, 0, none⟩) 2 2] 24] w35 4 _ _ rfl
  have bk35_5 : Blk W35 (w35.heap.size + 5) 24 #[.slice (some ⟨w35.heap.size + 3, 0, none⟩) 2 2, .slice (some ⟨w35.heap.size + 4, 0, none⟩) 2 2] := by rw [hW35]; exact chainW_blk [.cells #[.int .i64 1000000000, .int .i64 1] 2, .cells #[.int .i64 0, .int .i64 0] 2, .cells #[.slice (some ⟨w35.heap.size, 0, none⟩) 2 2, .slice (some ⟨w35.heap.size + 1, 0, none⟩) 2 2] 24, .cells #[.int .i64 1000000, .int .i64 0] 2, .cells #[.int .i64 1, .int .i64 0] 2, .cells #[.slice (some ⟨w35.heap.size + 3, 0, none⟩) 2 2, .slice (some ⟨w35.heap.size + 4, 0, none⟩) 2 2] 24] w35 5 _ _ rfl
  have sa35 : SlAt (pSl (pI .i64)) (Old W35) W35 (some ⟨w35.heap.size + 2, 0, none⟩) 2 [[1000000000, 1], [0, 0]] := lit_rows (g := (w35.heap.size)) (a := [1000000000, 1]) (b := [0, 0]) bk35_0 bk35_1 bk35_2 (by decide) (by decide) (by decide) (by decide)
  have sb35 : SlAt (pSl (pI .i64)) (Old W35) W35 (some ⟨w35.heap.size + 5, 0, none⟩) 2 [[1000000, 0], [1, 0]] := lit_rows (g := (w35.heap.size + 3)) (a := [1000000, 0]) (b := [1, 0]) bk35_3 bk35_4 bk35_5 (by decide) (by decide) (by decide) (by decide)
  have Sa35 := Lib.hid sa35; clear sa35
  have Sb35 := Lib.hid sb35; clear sb35
  go_wp2_with fail
  have HW35 := Lib.hid hW35; clear hW35
  rw [← HW35.out]
  refine (times_calls (some ⟨w35.heap.size + 2, 0, none⟩) (some ⟨w35.heap.size + 5, 0, none⟩) 2 2 [[1000000000, 1], [0, 0]] [[1000000, 0], [1, 0]] W35 Sa35.out Sb35.out).mono ?_
  rintro e w36 ht36
  obtain ⟨b36, A36, c36, rfl, s36⟩ := times_uniform ht36
  rw [show timesRes [[1000000000, 1], [0, 0]] [[1000000, 0], [1, 0]] = (16, []) from by decide +kernel] at s36 ⊢
  dsimp only at s36 ⊢
  have S36 := Lib.hid s36; clear s36 ht36 Sa35 Sb35
  have B36 := Lib.hid (tl35.trans (b36.mono tl35.size))
  clear b36 tl35
  clear bk35_0 bk35_1 bk35_2 bk35_3 bk35_4 bk35_5
  have T36 := Lib.hid ((T35.out).trans (B36.out.mono (T35.out).size))
  obtain ⟨W36, hW36⟩ : ∃ W, W = (((((w36.alloc (.cells #[.int .i64 1] 2)).alloc (.cells #[.slice (some ⟨w36.heap.size, 0, none⟩) 1 1] 24)).alloc (.cells #[.int .i64 1, .int .i64 1] 2)).alloc (.cells #[.int .i64 1, .int .i64 1] 2)).alloc (.cells #[.slice (some ⟨w36.heap.size + 2, 0, none⟩) 2 2, .slice (some ⟨w36.heap.size + 3, 0, none⟩) 2 2] 24)) := ⟨_, rfl⟩
  have tl36 : Below w36.heap.size w36 W36 := by rw [hW36]; exact chainW_below [.cells #[.int .i64 1] 2, .cells #[.slice (some ⟨w36.heap.size, 0, none⟩) 1 1] 24, .cells #[.int .i64 1, .int .i64 1] 2, .cells #[.int .i64 1, .int .i64 1] 2, .cells #[.slice (some ⟨w36.heap.size + 2, 0, none⟩) 2 2, .slice (some ⟨w36.heap.size + 3, 0, none⟩) 2 2] 24] w36
  have bk36_0 : Blk W36 (w36.heap.size) 2 #[.int .i64 1] := by rw [hW36]; exact chainW_blk [.cells #[.int .i64 1] 2, .cells #[.slice (some ⟨w36.heap.size, 0, none⟩) 1 1] 24, .cells #[.int .i64 1, .int .i64 1] 2, .cells #[.int .i64 1, .int .i64 1] 2, .cells #[.slice (some ⟨w36.heap.size + 2, 0, none⟩) 2 2, .slice (some ⟨w36.heap.size + 3, 0, none⟩) 2 2] 24] w36 0 _ _ rfl
  have bk36_1 : Blk W36 (w36.heap.size + 1) 24 #[.slice (some ⟨w36.heap.size, 0, none⟩) 1 1] := by rw [hW36]; exact chainW_blk [.cells #[.int .i64 1] 2, .cells #[.slice (some ⟨w36.heap.size, 0, none⟩) 1 1] 24, .cells #[.int .i64 1, .int .i64 1] 2, .cells #[.int .i64 1, .int .i64 1] 2, .cells #[.slice (some ⟨w36.heap.size + 2, 0, none⟩) 2 2, .slice (some ⟨w36.heap.size + 3, 0, none⟩) 2 2] 24] w36 1 _ _ rfl
  have bk36_2 : Blk W36 (w36.heap.size + 2) 2 #[.int .i64 1, .int .i64 1] := by rw [hW36]; exact chainW_blk [.cells #[.int .i64 1] 2, .cells #[.slice (some ⟨w36.heap.size, 0, none⟩) 1 1] 24, .cells #[.int .i64 1, .int .i64 1] 2, .cells #[.int .i64 1, .int .i64 1] 2, .cells #[.slice (some ⟨w36.heap.size + 2, 0, none⟩) 2 2, .slice (some ⟨w36.heap.size + 3, 0, none⟩) 2 2] 24] w36 2 _ _ rfl
  have bk36_3 : Blk W36 (w36.heap.size + 3) 2 #[.int .i64 1, .int .i64 1] := by rw [hW36]; exact chainW_blk [.cells #[.int .i64 1] 2, .cells #[.slice (some ⟨w36.heap.size, 0, none⟩) 1 1] 24, .cells #[.int .i64 1, .int .i64 1] 2, .cells #[.int .i64 1, .int .i64 1] 2, .cells #[.slice (some ⟨w36.heap.size + 2, 0, none⟩) 2 2, .slice (some ⟨w36.heap.size + 3, 0, none⟩) 2 2] 24] w36 3 _ _ rfl
  have bk36_4 : Blk W36 (w36.heap.size + 4) 24 #[.slice (some ⟨w36.heap.size + 2, 0, none⟩) 2 2, .slice (some ⟨w36.heap.size + 3, 0, none⟩) 2 2] := by rw [hW36]; exact chainW_blk [.cells #[.int .i64 1] 2, .cells #[.slice (some ⟨w36.heap.size, 0, none⟩) 1 1] 24, .cells #[.int .i64 1, .int .i64 1] 2, .cells #[.int .i64 1, .int .i64 1] 2, .cells #[.slice (some ⟨w36.heap.size + 2, 0, none⟩) 2 2, .slice (some ⟨w36.heap.size + 3, 0, none⟩) 2 2] 24] w36 4 _ _ rfl
  have sa36 : SlAt (pSl (pI .i64)) (Old W36) W36 (some ⟨w36.heap.size + 1, 0, none⟩) 1 [[1]] := rows_1 (g := (w36.heap.size)) (a := [1]) bk36_0 bk36_1 (by decide) (by decide)
  have sb36 : SlAt (pSl (pI .i64)) (Old W36) W36 (some ⟨w36.heap.size + 4, 0, none⟩) 2 [[1, 1], [1, 1]] := lit_rows (g := (w36.heap.size + 2)) (a := [1, 1]) (b := [1, 1]) bk36_2 bk36_3 bk36_4 (by decide) (by decide) (by decide) (by decide)
  have Sa36 := Lib.hid sa36; clear sa36
  have Sb36 := Lib.hid sb36; clear sb36
  go_wp2_with fail
  have HW36 := Lib.hid hW36; clear hW36
  rw [← HW36.out]
  refine (times_calls (some ⟨w36.heap.size + 1, 0, none⟩) (some ⟨w36.heap.size + 4, 0, none⟩) 1 2 [[1]] [[1, 1], [1, 1]] W36 Sa36.out Sb36.out).mono ?_
  rintro e w37 ht37
  obtain ⟨b37, A37, c37, rfl, s37⟩ := times_uniform ht37
  rw [show timesRes [[1]] [[1, 1], [1, 1]] = (8, []) from by decide +kernel] at s37 ⊢
  dsimp only at s37 ⊢
  have S37 := Lib.hid s37; clear s37 ht37 Sa36 Sb36
  have B37 := Lib.hid (tl36.trans (b37.mono tl36.size))
  clear b37 tl36
  clear bk36_0 bk36_1 bk36_2 bk36_3 bk36_4
  have T37 := Lib.hid ((T36.out).trans (B37.out.mono (T36.out).size))
  obtain ⟨W37, hW37⟩ : ∃ W, W = ((((w37.alloc (.cells #[.int .i64 (-1)] 2)).alloc (.cells #[.slice (some ⟨w37.heap.size, 0, none⟩) 1 1] 24)).alloc (.cells #[.int .i64 1] 2)).alloc (.cells #[.slice (some ⟨w37.heap.size + 2, 0, none⟩) 1 1] 24)) := ⟨_, rfl⟩
  have tl37 : Below w37.heap.size w37 W37 := by rw [hW37]; exact chainW_below [.cells #[.int .i64 (-1)] 2, .cells #[.slice (some ⟨w37.heap.size, 0, none⟩) 1 1] 24, .cells #[.int .i64 1] 2, .cells #[.slice (some ⟨w37.heap.size + 2, 0, none⟩) 1 1] 24] w37
  have bk37_0 : Blk W37 (w37.heap.size) 2 #[.int .i64 (-1)] := by rw [hW37]; exact chainW_blk [.cells #[.int .i64 (-1)] 2, .cells #[.slice (some ⟨w37.heap.size, 0, none⟩) 1 1] 24, .cells #[.int .i64 1] 2, .cells #[.slice (some ⟨w37.heap.size + 2, 0, none⟩) 1 1] 24] w37 0 _ _ rfl
  have bk37_1 : Blk W37 (w37.heap.size + 1) 24 #[.slice (some ⟨w37.heap.size, 0, none⟩) 1 1] := by rw [hW37]; exact chainW_blk [.cells #[.int .i64 (-1)] 2, .cells #[.slice (some ⟨w37.heap.size, 0, none⟩) 1 1] 24, .cells #[.int .i64 1] 2, .cells #[.slice (some ⟨w37.heap.size + 2, 0, none⟩) 1 1] 24] w37 1 _ _ rfl
  have bk37_2 : Blk W37 (w37.heap.size + 2) 2 #[.int .i64 1] := by rw [hW37]; exact chainW_blk [.cells #[.int .i64 (-1)] 2, .cells #[.slice (some ⟨w37.heap.size, 0, none⟩) 1 1] 24, .cells #[.int .i64 1] 2, .cells #[.slice (some ⟨w37.heap.size + 2, 0, none⟩) 1 1] 24] w37 2 _ _ rfl
  have bk37_3 : Blk W37 (w37.heap.size + 3) 24 #[.slice (some ⟨w37.heap.size + 2, 0, none⟩) 1 1] := by rw [hW37]; exact chainW_blk [.cells #[.int .i64 (-1)] 2, .cells #[.slice (some ⟨w37.heap.size, 0, none⟩) 1 1] 24, .cells #[.int .i64 1] 2, .cells #[.slice (some ⟨w37.heap.size + 2, 0, none⟩) 1 1] 24] w37 3 _ _ rfl
  have sa37 : SlAt (pSl (pI .i64)) (Old W37) W37 (some ⟨w37.heap.size + 1, 0, none⟩) 1 [[-1]] := rows_1 (g := (w37.heap.size)) (a := [-1]) bk37_0 bk37_1 (by decide) (by decide)
  have sb37 : SlAt (pSl (pI .i64)) (Old W37) W37 (some ⟨w37.heap.size + 3, 0, none⟩) 1 [[1]] := rows_1 (g := (w37.heap.size + 2)) (a := [1]) bk37_2 bk37_3 (by decide) (by decide)
  have Sa37 := Lib.hid sa37; clear sa37
  have Sb37 := Lib.hid sb37; clear sb37
  go_wp2_with fail
  have HW37 := Lib.hid hW37; clear hW37
  rw [← HW37.out]
  refine (times_calls (some ⟨w37.heap.size + 1, 0, none⟩) (some ⟨w37.heap.size + 3, 0, none⟩) 1 1 [[-1]] [[1]] W37 Sa37.out Sb37.out).mono ?_
  rintro e w38 ht38
  obtain ⟨b38, A38, c38, rfl, s38⟩ := times_uniform ht38
  rw [show timesRes [[-1]] [[1]] = (8, []) from by decide +kernel] at s38 ⊢
  dsimp only at s38 ⊢
  have S38 := Lib.hid s38; clear s38 ht38 Sa37 Sb37
  have B38 := Lib.hid (tl37.trans (b38.mono tl37.size))
  clear b38 tl37
  clear bk37_0 bk37_1 bk37_2 bk37_3
  have T38 := Lib.hid ((T37.out).trans (B38.out.mono (T37.out).size))
  go_wp2_with fail
  refine (times_calls none none 0 0 [] [] w38 sl_nil sl_nil).mono ?_
  rintro e w39 ht39
  obtain ⟨b39, A39, c39, rfl, s39⟩ := times_uniform ht39
  rw [show timesRes [] [] = (0, []) from by decide +kernel]
  dsimp only
  clear s39 ht39
  have B39 := Lib.hid b39
  clear b39
  have T39 := Lib.hid ((T38.out).trans (B39.out.mono (T38.out).size))
  go_wp2_with fail
  refine (shapes_calls (⟨#[65, 65, 65, 65, 65, 65, 65, 65, 65, 65, 66, 66, 66, 66, 66, 66, 66, 66, 66, 66]⟩ : ByteArray) w39 (by decide)).mono ?_
  rintro e w40 ⟨A40, c40, rfl, b40, s40⟩
  have S40 := Lib.hid (sl_old s40.out fun q hq => hq.2); clear s40
  have B40 := Lib.hid b40
  clear b40
  have T40 := Lib.hid ((T39.out).trans (B40.out.mono (T39.out).size))
  go_wp2_with fail
  refine (shapes_calls (⟨#[65, 65, 65, 65, 65, 65, 65, 65, 65, 65, 66, 66, 66, 66, 66, 66, 66, 66, 66, 66]⟩ : ByteArray) w40 (by decide)).mono ?_
  rintro e w41 ⟨A41, c41, rfl, b41, s41⟩
  have S41 := Lib.hid (sl_old s41.out fun q hq => hq.2); clear s41
  have B41 := Lib.hid b41
  clear b41
  have T41 := Lib.hid ((T40.out).trans (B41.out.mono (T40.out).size))
  obtain ⟨W41, hW41⟩ : ∃ W, W = ((w41.alloc (.cells #[.int .u8 65, .int .i64 0, .int .u8 0, .int .u8 0, .slice none 0 0, .int .i64 0, .slice A40 20 c40, .int .u8 66, .int .i64 0, .int .u8 0, .int .u8 0, .slice none 0 0, .int .i64 0, .slice A41 20 c41] 63)).alloc (.cells #[.int .u8 65, .slice none 0 0] 65)) := ⟨_, rfl⟩
  have tl41 : Below w41.heap.size w41 W41 := by rw [hW41]; exact chainW_below [.cells #[.int .u8 65, .int .i64 0, .int .u8 0, .int .u8 0, .slice none 0 0, .int .i64 0, .slice A40 20 c40, .int .u8 66, .int .i64 0, .int .u8 0, .int .u8 0, .slice none 0 0, .int .i64 0, .slice A41 20 c41] 63, .cells #[.int .u8 65, .slice none 0 0] 65] w41
  have bk41_0 : Blk W41 (w41.heap.size) 63 #[.int .u8 65, .int .i64 0, .int .u8 0, .int .u8 0, .slice none 0 0, .int .i64 0, .slice A40 20 c40, .int .u8 66, .int .i64 0, .int .u8 0, .int .u8 0, .slice none 0 0, .int .i64 0, .slice A41 20 c41] := by rw [hW41]; exact chainW_blk [.cells #[.int .u8 65, .int .i64 0, .int .u8 0, .int .u8 0, .slice none 0 0, .int .i64 0, .slice A40 20 c40, .int .u8 66, .int .i64 0, .int .u8 0, .int .u8 0, .slice none 0 0, .int .i64 0, .slice A41 20 c41] 63, .cells #[.int .u8 65, .slice none 0 0] 65] w41 0 _ _ rfl
  have bk41_1 : Blk W41 (w41.heap.size + 1) 65 #[.int .u8 65, .slice none 0 0] := by rw [hW41]; exact chainW_blk [.cells #[.int .u8 65, .int .i64 0, .int .u8 0, .int .u8 0, .slice none 0 0, .int .i64 0, .slice A40 20 c40, .int .u8 66, .int .i64 0, .int .u8 0, .int .u8 0, .slice none 0 0, .int .i64 0, .slice A41 20 c41] 63, .cells #[.int .u8 65, .slice none 0 0] 65] w41 1 _ _ rfl
  have sw41 : SlAt pRul (Old W41) W41 (some ⟨w41.heap.size, 0, none⟩) 2 twoR := sl_lit bk41_0 (CellsAre.append (CellsAre.one (E := pRul) (bare_R (fits_u8 (n := 65) (by decide)) (((S40.out.later B41.out)).later tl41) (by decide))) (CellsAre.one (E := pRul) (bare_R (fits_u8 (n := 66) (by decide)) (S41.out.later tl41) (by decide)))) bk41_0.lt (by decide) rfl
  have sm41 : SlAt pMod (Old W41) W41 (some ⟨w41.heap.size + 1, 0, none⟩) 1 oneA := sl_lit bk41_1 (CellsAre.one (E := pMod) (x := ⟨65, []⟩) (cs := [.int .u8 65, .slice none 0 0]) ⟨none, 0, rfl, fits_u8 (n := 65) (by decide), sl_none⟩) bk41_1.lt (by decide) rfl
  have Sw41 := Lib.hid sw41; clear sw41
  have Sm41 := Lib.hid sm41; clear sm41
  go_wp2_with fail
  have HW41 := Lib.hid hW41; clear hW41
  rw [← HW41.out]
  refine (gLength_calls (some ⟨w41.heap.size, 0, none⟩) 2 twoR (⟨#[65, 66]⟩ : ByteArray) (some ⟨w41.heap.size + 1, 0, none⟩) 1 oneA 12 W41 Sw41.out (small_R (by decide +kernel)) (by decide) Sm41.out (fits_i64 (by decide))).mono ?_
  rintro e w42 ⟨rfl, b42⟩
  rw [show lengthF twoR (⟨#[65, 66]⟩ : ByteArray) oneA 12 = (0, 16) from by decide +kernel]
  clear Sw41 Sm41
  have B42 := Lib.hid (tl41.trans (b42.mono tl41.size))
  clear b42 tl41
  clear bk41_0 bk41_1
  have T42 := Lib.hid ((T41.out).trans (B42.out.mono (T41.out).size))
  obtain ⟨W42, hW42⟩ : ∃ W, W = ((((w42.alloc (.cells #[.int .i64 1, .int .i64 0, .int .i64 0] 2)).alloc (.cells #[.int .i64 0, .int .i64 0, .int .i64 1] 2)).alloc (.cells #[.int .i64 0, .int .i64 1, .int .i64 1] 2)).alloc (.cells #[.slice (some ⟨w42.heap.size, 0, none⟩) 3 3, .slice (some ⟨w42.heap.size + 1, 0, none⟩) 3 3, .slice (some ⟨w42.heap.size + 2, 0, none⟩) 3 3] 24)) := ⟨_, rfl⟩
  have tl42 : Below w42.heap.size w42 W42 := by rw [hW42]; exact chainW_below [.cells #[.int .i64 1, .int .i64 0, .int .i64 0] 2, .cells #[.int .i64 0, .int .i64 0, .int .i64 1] 2, .cells #[.int .i64 0, .int .i64 1, .int .i64 1] 2, .cells #[.slice (some ⟨w42.heap.size, 0, none⟩) 3 3, .slice (some ⟨w42.heap.size + 1, 0, none⟩) 3 3, .slice (some ⟨w42.heap.size + 2, 0, none⟩) 3 3] 24] w42
  have bk42_0 : Blk W42 (w42.heap.size) 2 #[.int .i64 1, .int .i64 0, .int .i64 0] := by rw [hW42]; exact chainW_blk [.cells #[.int .i64 1, .int .i64 0, .int .i64 0] 2, .cells #[.int .i64 0, .int .i64 0, .int .i64 1] 2, .cells #[.int .i64 0, .int .i64 1, .int .i64 1] 2, .cells #[.slice (some ⟨w42.heap.size, 0, none⟩) 3 3, .slice (some ⟨w42.heap.size + 1, 0, none⟩) 3 3, .slice (some ⟨w42.heap.size + 2, 0, none⟩) 3 3] 24] w42 0 _ _ rfl
  have bk42_1 : Blk W42 (w42.heap.size + 1) 2 #[.int .i64 0, .int .i64 0, .int .i64 1] := by rw [hW42]; exact chainW_blk [.cells #[.int .i64 1, .int .i64 0, .int .i64 0] 2, .cells #[.int .i64 0, .int .i64 0, .int .i64 1] 2, .cells #[.int .i64 0, .int .i64 1, .int .i64 1] 2, .cells #[.slice (some ⟨w42.heap.size, 0, none⟩) 3 3, .slice (some ⟨w42.heap.size + 1, 0, none⟩) 3 3, .slice (some ⟨w42.heap.size + 2, 0, none⟩) 3 3] 24] w42 1 _ _ rfl
  have bk42_2 : Blk W42 (w42.heap.size + 2) 2 #[.int .i64 0, .int .i64 1, .int .i64 1] := by rw [hW42]; exact chainW_blk [.cells #[.int .i64 1, .int .i64 0, .int .i64 0] 2, .cells #[.int .i64 0, .int .i64 0, .int .i64 1] 2, .cells #[.int .i64 0, .int .i64 1, .int .i64 1] 2, .cells #[.slice (some ⟨w42.heap.size, 0, none⟩) 3 3, .slice (some ⟨w42.heap.size + 1, 0, none⟩) 3 3, .slice (some ⟨w42.heap.size + 2, 0, none⟩) 3 3] 24] w42 2 _ _ rfl
  have bk42_3 : Blk W42 (w42.heap.size + 3) 24 #[.slice (some ⟨w42.heap.size, 0, none⟩) 3 3, .slice (some ⟨w42.heap.size + 1, 0, none⟩) 3 3, .slice (some ⟨w42.heap.size + 2, 0, none⟩) 3 3] := by rw [hW42]; exact chainW_blk [.cells #[.int .i64 1, .int .i64 0, .int .i64 0] 2, .cells #[.int .i64 0, .int .i64 0, .int .i64 1] 2, .cells #[.int .i64 0, .int .i64 1, .int .i64 1] 2, .cells #[.slice (some ⟨w42.heap.size, 0, none⟩) 3 3, .slice (some ⟨w42.heap.size + 1, 0, none⟩) 3 3, .slice (some ⟨w42.heap.size + 2, 0, none⟩) 3 3] 24] w42 3 _ _ rfl
  have sa42 : SlAt (pSl (pI .i64)) (Old W42) W42 (some ⟨w42.heap.size + 3, 0, none⟩) 3 [[1, 0, 0], [0, 0, 1], [0, 1, 1]] := rows_3 (g := (w42.heap.size)) (a := [1, 0, 0]) (b := [0, 0, 1]) (c := [0, 1, 1]) bk42_0 bk42_1 bk42_2 bk42_3 (by decide) (by decide)
  have sb42 : SlAt (pSl (pI .i64)) (Old W42) W42 A20 c20 [[1, 0, 0], [0, 0, 1], [0, 1, 1]] := ((((((((((((((((((((S20n.out.later B24.out).later B25.out).later B26.out).later B27.out).later B28.out).later B29.out).later B30.out).later B31.out).later B32.out).later B33.out).later B34.out).later B35.out).later B36.out).later B37.out).later B38.out).later B39.out).later B40.out).later B41.out).later B42.out)).later tl42
  have Sa42 := Lib.hid sa42; clear sa42
  have Sb42 := Lib.hid sb42; clear sb42
  go_wp2_with fail
  have HW42 := Lib.hid hW42; clear hW42
  rw [← HW42.out]
  refine (sameRows_calls A20 (some ⟨w42.heap.size + 3, 0, none⟩) c20 3 [[1, 0, 0], [0, 0, 1], [0, 1, 1]] [[1, 0, 0], [0, 0, 1], [0, 1, 1]] W42 Sb42.out Sa42.out).mono ?_
  rintro e w43 ⟨rfl, q43, hq43⟩
  rw [show (([[1, 0, 0], [0, 0, 1], [0, 1, 1]] : List (List Int)) == [[1, 0, 0], [0, 0, 1], [0, 1, 1]]) = true from by decide]
  have b43 : Below W42.heap.size W42 w43 := by rw [hq43]; exact below_drewN (Below.refl _ _) _
  clear hq43 Sa42 Sb42
  have B43 := Lib.hid (tl42.trans (b43.mono tl42.size))
  clear b43 tl42
  clear bk42_0 bk42_1 bk42_2 bk42_3
  have T43 := Lib.hid ((T42.out).trans (B43.out.mono (T42.out).size))
  obtain ⟨W43, hW43⟩ : ∃ W, W = (((w43.alloc (.cells #[.int .i64 1, .int .i64 1] 2)).alloc (.cells #[.int .i64 1, .int .i64 0] 2)).alloc (.cells #[.slice (some ⟨w43.heap.size, 0, none⟩) 2 2, .slice (some ⟨w43.heap.size + 1, 0, none⟩) 2 2] 24)) := ⟨_, rfl⟩
  have tl43 : Below w43.heap.size w43 W43 := by rw [hW43]; exact chainW_below [.cells #[.int .i64 1, .int .i64 1] 2, .cells #[.int .i64 1, .int .i64 0] 2, .cells #[.slice (some ⟨w43.heap.size, 0, none⟩) 2 2, .slice (some ⟨w43.heap.size + 1, 0, none⟩) 2 2] 24] w43
  have bk43_0 : Blk W43 (w43.heap.size) 2 #[.int .i64 1, .int .i64 1] := by rw [hW43]; exact chainW_blk [.cells #[.int .i64 1, .int .i64 1] 2, .cells #[.int .i64 1, .int .i64 0] 2, .cells #[.slice (some ⟨w43.heap.size, 0, none⟩) 2 2, .slice (some ⟨w43.heap.size + 1, 0, none⟩) 2 2] 24] w43 0 _ _ rfl
  have bk43_1 : Blk W43 (w43.heap.size + 1) 2 #[.int .i64 1, .int .i64 0] := by rw [hW43]; exact chainW_blk [.cells #[.int .i64 1, .int .i64 1] 2, .cells #[.int .i64 1, .int .i64 0] 2, .cells #[.slice (some ⟨w43.heap.size, 0, none⟩) 2 2, .slice (some ⟨w43.heap.size + 1, 0, none⟩) 2 2] 24] w43 1 _ _ rfl
  have bk43_2 : Blk W43 (w43.heap.size + 2) 24 #[.slice (some ⟨w43.heap.size, 0, none⟩) 2 2, .slice (some ⟨w43.heap.size + 1, 0, none⟩) 2 2] := by rw [hW43]; exact chainW_blk [.cells #[.int .i64 1, .int .i64 1] 2, .cells #[.int .i64 1, .int .i64 0] 2, .cells #[.slice (some ⟨w43.heap.size, 0, none⟩) 2 2, .slice (some ⟨w43.heap.size + 1, 0, none⟩) 2 2] 24] w43 2 _ _ rfl
  have sa43 : SlAt (pSl (pI .i64)) (Old W43) W43 (some ⟨w43.heap.size + 2, 0, none⟩) 2 [[1, 1], [1, 0]] := lit_rows (g := (w43.heap.size)) (a := [1, 1]) (b := [1, 0]) bk43_0 bk43_1 bk43_2 (by decide) (by decide) (by decide) (by decide)
  have sb43 : SlAt (pSl (pI .i64)) (Old W43) W43 A24 c24 [[1, 1], [1, 0]] := ((((((((((((((((((((S24.out.later B25.out).later B26.out).later B27.out).later B28.out).later B29.out).later B30.out).later B31.out).later B32.out).later B33.out).later B34.out).later B35.out).later B36.out).later B37.out).later B38.out).later B39.out).later B40.out).later B41.out).later B42.out).later B43.out)).later tl43
  have Sa43 := Lib.hid sa43; clear sa43
  have Sb43 := Lib.hid sb43; clear sb43
  go_wp2_with fail
  have HW43 := Lib.hid hW43; clear hW43
  rw [← HW43.out]
  refine (sameRows_calls A24 (some ⟨w43.heap.size + 2, 0, none⟩) c24 2 [[1, 1], [1, 0]] [[1, 1], [1, 0]] W43 Sb43.out Sa43.out).mono ?_
  rintro e w44 ⟨rfl, q44, hq44⟩
  rw [show (([[1, 1], [1, 0]] : List (List Int)) == [[1, 1], [1, 0]]) = true from by decide]
  have b44 : Below W43.heap.size W43 w44 := by rw [hq44]; exact below_drewN (Below.refl _ _) _
  clear hq44 Sa43 Sb43
  have B44 := Lib.hid (tl43.trans (b44.mono tl43.size))
  clear b44 tl43
  clear bk43_0 bk43_1 bk43_2
  have T44 := Lib.hid ((T43.out).trans (B44.out.mono (T43.out).size))
  obtain ⟨W44, hW44⟩ : ∃ W, W = (((w44.alloc (.cells #[.int .i64 2, .int .i64 1] 2)).alloc (.cells #[.int .i64 1, .int .i64 0] 2)).alloc (.cells #[.slice (some ⟨w44.heap.size, 0, none⟩) 2 2, .slice (some ⟨w44.heap.size + 1, 0, none⟩) 2 2] 24)) := ⟨_, rfl⟩
  have tl44 : Below w44.heap.size w44 W44 := by rw [hW44]; exact chainW_below [.cells #[.int .i64 2, .int .i64 1] 2, .cells #[.int .i64 1, .int .i64 0] 2, .cells #[.slice (some ⟨w44.heap.size, 0, none⟩) 2 2, .slice (some ⟨w44.heap.size + 1, 0, none⟩) 2 2] 24] w44
  have bk44_0 : Blk W44 (w44.heap.size) 2 #[.int .i64 2, .int .i64 1] := by rw [hW44]; exact chainW_blk [.cells #[.int .i64 2, .int .i64 1] 2, .cells #[.int .i64 1, .int .i64 0] 2, .cells #[.slice (some ⟨w44.heap.size, 0, none⟩) 2 2, .slice (some ⟨w44.heap.size + 1, 0, none⟩) 2 2] 24] w44 0 _ _ rfl
  have bk44_1 : Blk W44 (w44.heap.size + 1) 2 #[.int .i64 1, .int .i64 0] := by rw [hW44]; exact chainW_blk [.cells #[.int .i64 2, .int .i64 1] 2, .cells #[.int .i64 1, .int .i64 0] 2, .cells #[.slice (some ⟨w44.heap.size, 0, none⟩) 2 2, .slice (some ⟨w44.heap.size + 1, 0, none⟩) 2 2] 24] w44 1 _ _ rfl
  have bk44_2 : Blk W44 (w44.heap.size + 2) 24 #[.slice (some ⟨w44.heap.size, 0, none⟩) 2 2, .slice (some ⟨w44.heap.size + 1, 0, none⟩) 2 2] := by rw [hW44]; exact chainW_blk [.cells #[.int .i64 2, .int .i64 1] 2, .cells #[.int .i64 1, .int .i64 0] 2, .cells #[.slice (some ⟨w44.heap.size, 0, none⟩) 2 2, .slice (some ⟨w44.heap.size + 1, 0, none⟩) 2 2] 24] w44 2 _ _ rfl
  have sa44 : SlAt (pSl (pI .i64)) (Old W44) W44 (some ⟨w44.heap.size + 2, 0, none⟩) 2 [[2, 1], [1, 0]] := lit_rows (g := (w44.heap.size)) (a := [2, 1]) (b := [1, 0]) bk44_0 bk44_1 bk44_2 (by decide) (by decide) (by decide) (by decide)
  have sb44 : SlAt (pSl (pI .i64)) (Old W44) W44 A35 c35 [[2, 1], [1, 0]] := ((((((((((S35.out.later B36.out).later B37.out).later B38.out).later B39.out).later B40.out).later B41.out).later B42.out).later B43.out).later B44.out)).later tl44
  have Sa44 := Lib.hid sa44; clear sa44
  have Sb44 := Lib.hid sb44; clear sb44
  go_wp2_with fail
  have HW44 := Lib.hid hW44; clear hW44
  rw [← HW44.out]
  refine (sameRows_calls A35 (some ⟨w44.heap.size + 2, 0, none⟩) c35 2 [[2, 1], [1, 0]] [[2, 1], [1, 0]] W44 Sb44.out Sa44.out).mono ?_
  rintro e w45 ⟨rfl, q45, hq45⟩
  rw [show (([[2, 1], [1, 0]] : List (List Int)) == [[2, 1], [1, 0]]) = true from by decide]
  have b45 : Below W44.heap.size W44 w45 := by rw [hq45]; exact below_drewN (Below.refl _ _) _
  clear hq45 Sa44 Sb44
  have B45 := Lib.hid (tl44.trans (b45.mono tl44.size))
  clear b45 tl44
  clear bk44_0 bk44_1 bk44_2
  have T45 := Lib.hid ((T44.out).trans (B45.out.mono (T44.out).size))
  go_wp2_with fail
  refine (alive_calls w45).mono ?_
  rintro e w46 ⟨rfl, b46⟩
  have B46 := Lib.hid b46
  clear b46
  have T46 := Lib.hid ((T45.out).trans (B46.out.mono (T45.out).size))
  go_wp2
  go_ret
  exact ⟨rfl, T46.out⟩
end Go.Proofs.Ytdjjhlnhfbcojaa
