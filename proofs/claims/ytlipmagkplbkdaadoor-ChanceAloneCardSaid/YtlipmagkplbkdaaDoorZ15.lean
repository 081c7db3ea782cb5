/- Texts of the proof that the statement of ChanceAlone holds, several in one. -/
import Derived.Test.YtlipmagkplbkdaaDoorZ12
import Derived.Test.YtlipmagkplbkdaaDoorZ9
import Derived.Test.YtlipmagkplbkdaaDoorZ13
import Derived.Test.YtlipmagkplbkdaaDoorZ4
set_option linter.unusedVariables false
set_option linter.unusedSimpArgs false
set_option linter.unusedSectionVars false
set_option maxRecDepth 100000
set_option maxHeartbeats 8000000
namespace Go.Proofs.YtlipmagkplbkdaaDoor
section
open Go.RowKit
end
section
open Go.RowKit Go.Sort Go.BigFrame
end
section
open Go.RowKit Go.Sort Go.BigFrame
def oneR (rs : List Rul) (s : Int) (c : Cel) : List Cel × Int := if checkC rs = 0 then (if (pathF c.path && fineF c.mod) = true then succR rs s c else ([], 8)) else ([], checkC rs)
theorem one_calls (A : Option Addr) (c : Nat) (rs : List Rul) (s : Int) (cl : Cel) (D : Option Addr) (d : Nat) (w : World) (h : SlAt pRul (Old w) w A c rs) (h' : SlAt (pI .i64) (Old w) w D d cl.mod.args) (hf8 : Fits .u8 cl.mod.name) (hs : Fits .i64 s) (hsm : Small rs) (hp : cl.path.size <= 300) (ht : TabAt w) (hg : GAt w) :
  Calls Tryd.prog 27 #[.slice A rs.length c, .int .i64 s, .agg #[.string cl.path, .int .u8 cl.mod.name, .slice D cl.mod.args.length d]] w (CelsPost (oneR rs s cl) w) := by
 have hmx := h.lenle
 have hmx' := h'.lenle
 obtain ⟨W0, hW0⟩ : ∃ W0, W0 = w.alloc (.cells #[.string cl.path, .int .u8 cl.mod.name, .slice D cl.mod.args.length d] 51) := ⟨_, rfl⟩
 have hb0 : Below w.heap.size w W0 := by rw [hW0]; exact (Below.refl _ _).alloc (Nat.le_refl _) _
 have hz0 : w.heap.size + 1 <= W0.heap.size := by rw [hW0]; simp
 have hbl0 : Blk W0 w.heap.size 51 #[.string cl.path, .int .u8 cl.mod.name, .slice D cl.mod.args.length d] := by rw [hW0]; exact Blk.new _ _ _
 have hck := checkC_calls A c rs W0 (h.later hb0) hsm
 unfold IntPost at hck
 by_cases hc : checkC rs = 0
 case neg =>
  have e0 : (checkC rs != 0) = true := by simp [hc]
  have hff : oneR rs s cl = ([], checkC rs) := by unfold oneR; rw [if_neg hc]
  generalize checkC rs = x at hck hff e0
  clear hc
  obtain ⟨H, H', Hb0, Hbl0, Hck, Hff⟩ := HH6 h h' hb0 hbl0 hck hff; clear h h' hb0 hbl0 hck hff
  go_enter Tryd.func27, Tryd.ntmps27
  go_upto_region 1 with fail
  rw [<- hW0]
  have HW0 := HH1 hW0; clear hW0
  go_wp2_with (go_at_call 21; refine Hck.out.mono ?_; rintro e w1 ⟨rfl, hb1⟩)
  go_ret2
  exact celsPost_none Hff.out (Hb0.out.trans (hb1.mono (by omega)))
 case pos =>
 rw [hc] at hck
 have hv := rval_of hc
 obtain ⟨H, H', Hb0, Hbl0, Hck, Hv, Hc, Hs, Ht, Hg⟩ := HH10 h h' hb0 hbl0 hck hv hc hs ht hg; clear h h' hb0 hbl0 hck hv hc hs ht hg
 go_enter Tryd.func27, Tryd.ntmps27
 go_upto_region 1 with fail
 rw [<- hW0]
 have HW0 := HH1 hW0; clear hW0
 go_upto_region 4 with (go_at_call 21; refine Hck.out.mono ?_; rintro e w1 ⟨rfl, hb1⟩)
 have hz1 := hb1.size
 have hbw1 : Below w.heap.size w w1 := Hb0.out.trans (hb1.mono (by omega))
 have hbl1 := Hbl0.out.same (hb1.block _ (by omega))
 have y1 : w1.cell? ⟨w.heap.size, 1, none⟩ = some (.int .u8 cl.mod.name) := (hbl1.cell 1).trans rfl
 have y2 : w1.cell? ⟨w.heap.size, 2, none⟩ = some (.slice D cl.mod.args.length d) := (hbl1.cell 2).trans rfl
 obtain ⟨W2, hW2⟩ : ∃ W2, W2 = w1.alloc (.cells #[.int .u8 cl.mod.name, .slice D cl.mod.args.length d] 49) := ⟨_, rfl⟩
 have hb2 : Below w1.heap.size w1 W2 := by rw [hW2]; exact (Below.refl _ _).alloc (Nat.le_refl _) _
 have hz2 : w1.heap.size + 1 <= W2.heap.size := by rw [hW2]; simp
 have hsb : SlAt pMod (Old W2) W2 (some ⟨w1.heap.size, 0, none⟩) 1 [cl.mod] := by
  rw [hW2]
  refine (sl_boxed (E := pMod) (F := Old w1) (u := .agg #[.int .u8 cl.mod.name, .slice D cl.mod.args.length d]) ⟨D, d, rfl, hf8, H'.out.later hbw1⟩ (fun q hq => hq)).wide ?_
  intro q hq
  rcases hq with hq | rfl
  ·have : q < w1.heap.size := hq
   unfold Old; simp; omega
  ·unfold Old; simp
 have hcw : Calls Tryd.prog 42 #[.slice (some ⟨w1.heap.size, 0, none⟩) 1 1] W2 fun e w' => e = .returned (.int .i64 (checkF [cl.mod])) /\ Below W2.heap.size W2 w' := wordCheck_calls (some ⟨w1.heap.size, 0, none⟩) 1 [cl.mod] W2 hsb
 have hbw2 : Below w.heap.size w W2 := hbw1.trans (hb2.mono (by omega))
 have hbl2 := hbl1.same (hb2.block _ (by omega))
 have hcm := check_mod cl.mod
 obtain ⟨x, hx⟩ : ∃ x, checkF [cl.mod] = x := ⟨_, rfl⟩
 rw [hx] at hcw hcm
 obtain ⟨Hb1, Hbw1, Hbl1, Hb2, Hsb, Hcw, Hbw2, Hbl2, Hcm, Hx⟩ := HH10 hb1 hbw1 hbl1 hb2 hsb hcw hbw2 hbl2 hcm hx; clear hb1 hbw1 hbl1 hb2 hsb hcw hbw2 hbl2 hcm hx
 go_upto_region 5 with (go_at_call 42; rw [<- hW2]; refine Hcw.out.mono ?_; rintro e w3 ⟨rfl, hb3⟩)
 have hz3 := hb3.size
 have hbw3 : Below w.heap.size w w3 := Hbw2.out.trans (hb3.mono (by omega))
 have hbl3 := Hbl2.out.same (hb3.block _ (by omega))
 have y0 : w3.cell? ⟨w.heap.size, 0, none⟩ = some (.string cl.path) := (hbl3.cell 0).trans rfl
 have z1 : w3.cell? ⟨w.heap.size, 1, none⟩ = some (.int .u8 cl.mod.name) := (hbl3.cell 1).trans rfl
 have z2 : w3.cell? ⟨w.heap.size, 2, none⟩ = some (.slice D cl.mod.args.length d) := (hbl3.cell 2).trans rfl
 clear y1 y2 hW2
 have hcp := path_calls cl.path w3 (by omega)
 unfold BoolPost at hcp
 cases hpf : pathF cl.path
 case false =>
  rw [hpf] at hcp
  have hff : oneR rs s cl = ([], 8) := by unfold oneR; rw [if_pos Hc.out, hpf]; rfl
  obtain ⟨Hcp, Hff, Hbl3, Hbw3, Hb3⟩ := HH5 hcp hff hbl3 hbw3 hb3; clear hcp hff hbl3 hbw3 hb3
  go_wp2_with (go_at_call 52; refine Hcp.out.mono ?_; rintro e w4 ⟨rfl, hb4⟩)
  go_ret2
  exact celsPost_none Hff.out (Hbw3.out.trans (hb4.mono (by omega)))
 case true =>
  rw [hpf] at hcp
  have hsu : ∀ w4, Below w3.heap.size w3 w4 -> fineF cl.mod = true -> Calls Tryd.prog 53 #[.slice A rs.length c, .int .i64 s, .agg #[.string cl.path, .int .u8 cl.mod.name, .slice D cl.mod.args.length d]] w4 (CelsPost (succR rs s cl) w4) := fun w4 hb4 hfi =>
   have hbw4 := hbw3.trans (hb4.mono (by omega))
   successors9_calls A c rs s cl D d w4 (H.out.later hbw4) (H'.out.later hbw4) hf8 Hs.out Hv.out hfi hp (Ht.out.later hbw4 Hg.out) (Hg.out.later hbw4)
  have hcell : ∀ w4, Below w3.heap.size w3 w4 -> w4.cell? ⟨w.heap.size, 0, none⟩ = some (.string cl.path) /\ w4.cell? ⟨w.heap.size, 1, none⟩ = some (.int .u8 cl.mod.name) /\ w4.cell? ⟨w.heap.size, 2, none⟩ = some (.slice D cl.mod.args.length d) := fun w4 hb4 =>
   have hb := hbl3.same (hb4.block _ (by omega))
   ⟨(hb.cell 0).trans rfl, (hb.cell 1).trans rfl, (hb.cell 2).trans rfl⟩
  cases hfi : fineF cl.mod
  case false =>
   have hx0 : ¬ (x = 0 ∨ x = 28) := fun h => by have := Hcm.out.1 h; rw [hfi] at this; cases this
   have hff : oneR rs s cl = ([], 8) := by unfold oneR; rw [if_pos Hc.out, hpf, hfi]; rfl
   have e0 : (x != 0) = true := by simp; omega
   have e1 : (x != 28) = true := by simp; omega
   obtain ⟨Hcp, Hff, Hbl3, Hbw3, Hb3, Hsu, Hcell, Hfi⟩ := HH8 hcp hff hbl3 hbw3 hb3 hsu hcell hfi; clear hcp hff hbl3 hbw3 hb3 hsu hcell hfi
   clear hx0
   go_wp2_with (go_at_call 52; refine Hcp.out.mono ?_; rintro e w4 ⟨rfl, hb4⟩)
   go_ret2
   exact celsPost_none Hff.out (Hbw3.out.trans (hb4.mono (by omega)))
  case true =>
   have hx0 : x = 0 ∨ x = 28 := Hcm.out.2 hfi
   have hff : oneR rs s cl = succR rs s cl := by unfold oneR; rw [if_pos Hc.out, hpf, hfi]; rfl
   have hsu2 := fun w4 hb4 => hsu w4 hb4 hfi
   unfold CelsPost at hsu2
   obtain ⟨Hcp, Hff, Hbl3, Hbw3, Hb3, Hsu, Hcell, Hfi, Hsu2⟩ := HH9 hcp hff hbl3 hbw3 hb3 hsu hcell hfi hsu2; clear hcp hff hbl3 hbw3 hb3 hsu hcell hfi hsu2
   have fnl : ∀ w4 (hb4 : Below w3.heap.size w3 w4) (w5 : World) A6 c6, SlAt pCel (fun q => w4.heap.size <= q /\ q < w5.heap.size) w5 A6 c6 (succR rs s cl).1 -> Below w4.heap.size w4 w5 -> CelsPost (oneR rs s cl) w (.returned (.tuple #[.slice A6 (succR rs s cl).1.length c6, .int .i64 (succR rs s cl).2])) w5 := fun w4 hb4 w5 A6 c6 hs5 hb5 => by
    have hz4 := hb4.size
    have := Hbw3.out.size
    rw [Hff.out]
    exact ⟨A6, c6, rfl, hs5.wide fun q hq => ⟨by omega, hq.2⟩, (Hbw3.out.trans (hb4.mono (by omega))).trans (hb5.mono (by omega))⟩
   have Fnl := HH1 fnl; clear fnl
   rcases hx0 with rfl | rfl
   ·go_wp2_with (first
     | (go_at_call 52; refine Hcp.out.mono ?_; rintro e w4 ⟨rfl, hb4⟩; obtain ⟨p0, p1, p2⟩ := Hcell.out _ hb4)
     | (go_at_call 53; refine (Hsu2.out _ hb4).mono ?_; rintro e w5 ⟨A6, c6, rfl, hs5, hb5⟩))
    go_ret2
    exact Fnl.out _ hb4 _ _ _ hs5 hb5
   ·go_wp2_with (first
     | (go_at_call 52; refine Hcp.out.mono ?_; rintro e w4 ⟨rfl, hb4⟩; obtain ⟨p0, p1, p2⟩ := Hcell.out _ hb4)
     | (go_at_call 53; refine (Hsu2.out _ hb4).mono ?_; rintro e w5 ⟨A6, c6, rfl, hs5, hb5⟩))
    go_ret2
    exact Fnl.out _ hb4 _ _ _ hs5 hb5
end
section
open Go.RowKit
def ruleBC : Rul := ⟨65, 0, 0, 0, [], 1, [⟨66, []⟩, ⟨67, []⟩]⟩
def ruleD : Rul := ⟨65, 0, 0, 0, [], 1, [⟨68, []⟩]⟩
def exRs : List Rul := [ruleBC]
def exTwo : List Rul := [ruleBC, ruleD]
def exW : List Mod := [⟨70, []⟩, ⟨91, []⟩, ⟨65, []⟩, ⟨93, []⟩]
def cellN (p : ByteArray) (n : Int) : Cel := ⟨p, ⟨n, []⟩⟩
def p2 : ByteArray := ⟨#[50]⟩
def exBC : List Cel := [cellN ⟨#[50, 47, 48]⟩ 66, cellN ⟨#[50, 47, 49]⟩ 67]
def exD : List Cel := [cellN ⟨#[50, 47, 48]⟩ 68]
def exL : List Cel := [cellN ⟨#[48]⟩ 70, cellN ⟨#[49]⟩ 91, cellN ⟨#[50]⟩ 65, cellN ⟨#[51]⟩ 93]
theorem itoaB_one {k : Nat} (h : k < 10) : itoaB k = ⟨#[UInt8.ofNat (48 + k)]⟩ := by
 unfold itoaB Lib.itoa
 rw [if_neg (by omega), Lib.decDigits, dif_pos (by simpa using h)]
 simp
theorem exL_eq : beginL exW = exL := by
 show [celI 0 _, celI 1 _, celI 2 _, celI 3 _] = _
 unfold celI
 rw [itoaB_one (by decide), itoaB_one (by decide), itoaB_one (by decide), itoaB_one (by decide)]
 rfl
theorem exW_ok : checkF exW = 0 := by decide +kernel
theorem exRs_ok : checkC exRs = 0 := by decide +kernel
theorem exTwo_ok : checkC exTwo = 0 := by decide +kernel
theorem sub0 : subP p2 0 = ⟨#[50, 47, 48]⟩ := by
 unfold subP
 rw [itoaB_one (by decide)]
 decide +kernel
theorem sub1 : subP p2 1 = ⟨#[50, 47, 49]⟩ := by
 unfold subP
 rw [itoaB_one (by decide)]
 decide +kernel
theorem sucBC : sucR ruleBC (cellN p2 65) = (exBC, 0) := by
 have h1 : madeL ruleBC (cellN p2 65).mod = [⟨66, []⟩, ⟨67, []⟩] := by decide +kernel
 have h2 : sucL p2 [⟨66, []⟩, ⟨67, []⟩] = exBC := by
  show [(⟨subP p2 0, _⟩ : Cel), ⟨subP p2 1, _⟩] = _
  rw [sub0, sub1]; rfl
 have h3 : madeOk ruleBC (cellN p2 65).mod = true := by decide +kernel
 have h4 : sucL (cellN p2 65).path (madeL ruleBC (cellN p2 65).mod) = exBC := by rw [h1]; exact h2
 rw [sucR_ok h3 (by rw [h4]; decide +kernel), h4]
theorem sucD : sucR ruleD (cellN p2 65) = (exD, 0) := by
 have h1 : madeL ruleD (cellN p2 65).mod = [⟨68, []⟩] := by decide +kernel
 have h2 : sucL p2 [⟨68, []⟩] = exD := by
  show [(⟨subP p2 0, _⟩ : Cel)] = _
  rw [sub0]; rfl
 have h3 : madeOk ruleD (cellN p2 65).mod = true := by decide +kernel
 have h4 : sucL (cellN p2 65).path (madeL ruleD (cellN p2 65).mod) = exD := by rw [h1]; exact h2
 rw [sucR_ok h3 (by rw [h4]; decide +kernel), h4]
theorem exOne : oneR exRs 5 (cellN p2 65) = (exBC, 0) := by
 unfold oneR
 rw [if_pos exRs_ok, if_pos (by decide +kernel)]
 rcases pick_cases (rval_of exRs_ok) 5 (cellN p2 65) with ⟨h, _⟩ | ⟨i, j, r, _, _, _, hj, _, hp⟩
 ·exact absurd h (by decide +kernel)
 ·rw [succR_some hp]
  have : r = ruleBC := by
   match j, hj with
   | 0, hj => exact (Option.some.inj hj).symm
   | j + 1, hj => simp [exRs] at hj
  rw [this, sucBC]
theorem exPick : ∃ c, succR exTwo 5 (cellN p2 65) = (c, 0) /\ (c = exBC ∨ c = exD) := by
 rcases pick_cases (rval_of exTwo_ok) 5 (cellN p2 65) with ⟨h, _⟩ | ⟨i, j, r, _, _, _, hj, _, hp⟩
 ·exact absurd h (by decide +kernel)
 ·rw [succR_some hp]
  match j, hj with
  | 0, hj => exact ⟨exBC, by rw [<- Option.some.inj hj, sucBC], .inl rfl⟩
  | 1, hj => exact ⟨exD, by rw [<- Option.some.inj hj, sucD], .inr rfl⟩
  | j + 2, hj => simp [exTwo] at hj
theorem exStay (c : Cel) (h : fitP c.mod exTwo = []) : succR exTwo 5 c = ([c], 0) := by
 rcases pick_cases (rval_of exTwo_ok) 5 c with ⟨_, _, hp⟩ | ⟨i, j, r, hi, _⟩
 ·exact succR_none hp
 ·rw [h] at hi; exact absurd hi (Nat.not_lt_zero _)
theorem exAlive : ∃ c d, oneR exTwo 5 (cellN p2 65) = (c, 0) /\ pRun9 exTwo 5 exW 1 = (d, 0) /\ (c = exBC ∨ c = exD) /\ d.length = 3 + c.length /\ (d.drop 2).take c.length = c := by
 obtain ⟨c, h1, h2⟩ := exPick
 have s0 : succR exTwo 5 (cellN ⟨#[48]⟩ 70) = ([cellN ⟨#[48]⟩ 70], 0) := exStay _ (by decide +kernel)
 have s1 : succR exTwo 5 (cellN ⟨#[49]⟩ 91) = ([cellN ⟨#[49]⟩ 91], 0) := exStay _ (by decide +kernel)
 have s3 : succR exTwo 5 (cellN ⟨#[51]⟩ 93) = ([cellN ⟨#[51]⟩ 93], 0) := exStay _ (by decide +kernel)
 have hc2 : c.length <= 2 := by rcases h2 with rfl | rfl <;> decide
 have he : errL exTwo 5 exL = 0 := by
  show (if (succR exTwo 5 (cellN ⟨#[48]⟩ 70)).2 ≠ 0 then _ else (if (succR exTwo 5 (cellN ⟨#[49]⟩ 91)).2 ≠ 0 then _ else (if (succR exTwo 5 (cellN p2 65)).2 ≠ 0 then _ else (if (succR exTwo 5 (cellN ⟨#[51]⟩ 93)).2 ≠ 0 then _ else (0 : Int))))) = 0
  rw [s0, s1, s3, h1]
  rfl
 have ha : allL exTwo 5 exL = cellN ⟨#[48]⟩ 70 :: cellN ⟨#[49]⟩ 91 :: (c ++ [cellN ⟨#[51]⟩ 93]) := by
  show (succR exTwo 5 (cellN ⟨#[48]⟩ 70)).1 ++ ((succR exTwo 5 (cellN ⟨#[49]⟩ 91)).1 ++ ((succR exTwo 5 (cellN p2 65)).1 ++ ((succR exTwo 5 (cellN ⟨#[51]⟩ 93)).1 ++ []))) = _
  rw [s0, s1, s3, h1]
  rfl
 have hst : stepR9 exTwo 5 exL = (allL exTwo 5 exL, 0) := stepR9_ok he (by rw [ha]; simp; omega)
 refine ⟨c, allL exTwo 5 exL, ?_, ?_, h2, ?_, ?_⟩
 ·unfold oneR
  rw [if_pos exTwo_ok, if_pos (by decide +kernel), h1]
 ·unfold pRun9
  rw [if_pos exTwo_ok, if_pos exW_ok, if_neg (by decide), exL_eq]
  show (if (stepR9 exTwo 5 exL).2 = 0 then ((stepR9 exTwo 5 exL).1, 0) else _) = _
  rw [hst]
  rfl
 ·rw [ha]; simp; omega
 ·rw [ha]
  show (c ++ [cellN ⟨#[51]⟩ 93]).take c.length = c
  rw [List.take_left']
  rfl
end
section
open Go.RowKit
theorem sl_lit {α : Type} {E : Rp α} {F : Nat -> Prop} {w : World} {g : Nat} {t : TypeId} {cells : Array Value} {xs : List α} (h : Blk w g t cells) (hc : CellsAre E F w cells.toList xs) (hF : F g) (hm : xs.length <= maxLen) {n : Nat} (hn : xs.length = n) : SlAt E F w (some ⟨g, 0, none⟩) n xs := by
 subst hn
 refine ⟨Nat.le_refl _, hm, (fun e => by cases e), fun i x hx => ?_⟩
 obtain ⟨cs, h1, h2⟩ := hc.get hx
 refine ⟨g, 0, cs, rfl, hF, h1, fun j c hj => ?_⟩
 rw [h.cell, Nat.zero_add]
 have := h2 j c hj
 simpa using this
theorem sl_none {α : Type} {E : Rp α} {F : Nat -> Prop} {w : World} : SlAt E F w none 0 ([] : List α) := ⟨Nat.le_refl _, Nat.zero_le _, fun _ => rfl, fun i x hx => by simp at hx⟩
end
section
open Go.RowKit Go.Sort Go.BigFrame
theorem own_lit9 {α : Type} {E : Rp α} {w : World} {e : TypeId} {cells : Array Value} {xs : List α} {G : Nat -> Prop} {base : Nat} (hbs : base <= w.heap.size) (h : CellsAre E (fun k => G k /\ k < w.heap.size) w cells.toList xs) (hm : xs.length <= maxLen) :
  Own E e base G (w.alloc (.cells cells e)) (.slice (some ⟨w.heap.size, 0, none⟩) xs.length xs.length) xs := by
 have hl := h.length
 refine ⟨cells.toList, ⟨hl, .inr ⟨w.heap.size, xs.length, cells, rfl, hbs, heap_alloc_new w _, Nat.le_refl _, hm, by rw [<- hl]; simp, ?_⟩⟩, ?_⟩
 ·rw [List.take_of_length_le (by omega)]
 ·refine (CellsAre.keep (fun k hk => Below.heap_alloc _ _ _ hk.2) h).wide fun k hk => ⟨hk.1, by have := hk.2; simp; omega, fun e => ?_⟩
  cases e
  exact Nat.lt_irrefl _ hk.2
theorem bare_R9 {F : Nat -> Prop} {w : World} {n : Int} (h : Fits .u8 n) : pMod.R F w [.int .u8 n, .slice none 0 0] ⟨n, []⟩ := ⟨none, 0, rfl, h, sl_none⟩
theorem shp_R9 {F : Nat -> Prop} {w : World} {n : Int} (h : Fits .u8 n) : pShp.R F w [.int .u8 n, .slice none 0 0] ⟨n, []⟩ := ⟨none, 0, rfl, h, sl_none⟩
theorem cel_R9 {F : Nat -> Prop} {w : World} {p : ByteArray} {n : Int} (hp : p.size <= maxLen) (h : Fits .u8 n) : pCel.R F w [.string p, .int .u8 n, .slice none 0 0] (cellN p n) := ⟨none, 0, rfl, hp, h, sl_none⟩
theorem rul_R9 {F : Nat -> Prop} {w : World} {B : Option Addr} {k c : Nat} {o : List Shp} (h : SlAt pShp F w B c o) (hk : o.length = k) :
  pRul.R F w [.int .u8 65, .int .i64 0, .int .u8 0, .int .u8 0, .slice none 0 0, .int .i64 1, .slice B k c] ⟨65, 0, 0, 0, [], 1, o⟩ := by
 subst hk
 exact ⟨none, 0, B, c, rfl, ⟨fits_u8 (n := 65) (by decide), fits_i64 (n := 0) (by decide), fits_u8 (n := 0) (by decide), fits_u8 (n := 0) (by decide), fits_i64 (n := 1) (by decide)⟩, sl_none, h⟩
theorem lit9 {α : Type} {E : Rp α} {w : World} {t : TypeId} {cells : Array Value} {xs : List α} (h : CellsAre E (Old w) w cells.toList xs) (hm : xs.length <= maxLen) {n : Nat} (hn : xs.length = n) :
  SlAt E (Old (w.alloc (.cells cells t))) (w.alloc (.cells cells t)) (some ⟨w.heap.size, 0, none⟩) n xs :=
 sl_lit (Blk.new w t cells) ((CellsAre.keep (fun k hk => Below.heap_alloc _ _ _ hk) h).wide fun k hk => by unfold Old at *; simp; omega) (by show w.heap.size < _; simp) hm hn
def GivPost (rs : List Rul) (w : World) (e : Ending) (w' : World) : Prop := ∃ A c, e = .returned (.slice A rs.length c) /\ Own pRul 60 w.heap.size (w.heap.size <= ·) w' (.slice A rs.length c) rs /\ Below w.heap.size w w'
theorem given9_calls (w : World) : Calls Tryd.prog 35 #[] w (GivPost exRs w) := by
 obtain ⟨w1, hw1⟩ : ∃ w1, w1 = w.alloc (.cells #[.int .u8 66, .slice none 0 0, .int .u8 67, .slice none 0 0] 72) := ⟨_, rfl⟩
 have hb1 : Below w.heap.size w w1 := by rw [hw1]; exact (Below.refl _ _).alloc (Nat.le_refl _) _
 have hz1 : w1.heap.size = w.heap.size + 1 := by rw [hw1]; simp
 have hs1 : SlAt pShp (fun k => w.heap.size <= k /\ k < w1.heap.size) w1 (some ⟨w.heap.size, 0, none⟩) 2 [⟨66, []⟩, ⟨67, []⟩] := by
  rw [hw1]
  refine sl_lit (E := pShp) (F := fun k => w.heap.size <= k /\ k < (w.alloc _).heap.size) (Blk.new w _ _) (xs := [⟨66, []⟩, ⟨67, []⟩]) ⟨[_, _], _, rfl, shp_R9 (fits_u8 (by decide)), [_, _], [], rfl, shp_R9 (fits_u8 (by decide)), rfl⟩ ⟨Nat.le_refl _, by simp⟩ (by decide) rfl
 have ho2 : Own pRul 60 w.heap.size (w.heap.size <= ·) (w1.alloc (.cells #[.int .u8 65, .int .i64 0, .int .u8 0, .int .u8 0, .slice none 0 0, .int .i64 1, .slice (some ⟨w.heap.size, 0, none⟩) 2 2] 60)) (.slice (some ⟨w1.heap.size, 0, none⟩) 1 1) exRs :=
  own_lit9 (E := pRul) (xs := exRs) (by omega) ⟨[_, _, _, _, _, _, _], [], rfl, rul_R9 hs1 rfl, rfl⟩ (by decide)
 have hb2 := hb1.alloc (o := .cells #[.int .u8 65, .int .i64 0, .int .u8 0, .int .u8 0, .slice none 0 0, .int .i64 1, .slice (some ⟨w.heap.size, 0, none⟩) 2 2] 60) (by omega)
 rw [hw1] at ho2 hb2
 have hz2 : (w.alloc (.cells #[.int .u8 66, .slice none 0 0, .int .u8 67, .slice none 0 0] 72)).heap.size = w.heap.size + 1 := by simp
 rw [hz2] at ho2
 clear hs1 hb1 hz1 hw1
 obtain ⟨Ho2, Hb2⟩ := HH2 ho2 hb2; clear ho2 hb2
 go_enter Tryd.func35, Tryd.ntmps35
 go_wp2
 go_ret
 exact ⟨_, 1, rfl, Ho2.out, Hb2.out⟩
theorem cell9_calls (p : ByteArray) (n : Int) (w : World) : Calls Tryd.prog 36 #[.string p, .int .u8 n] w fun e w' => e = .returned (.agg #[.string p, .int .u8 n, .slice none 0 0]) /\ Below w.heap.size w w' := by
 have hb0 : Blk (w.alloc (.cells #[.string ByteArray.empty, .int .u8 0, .slice none 0 0] 51)) w.heap.size 51 #[.string ByteArray.empty, .int .u8 0, .slice none 0 0] := Blk.new _ _ _
 have hb1 : Blk ((w.alloc (.cells #[.string ByteArray.empty, .int .u8 0, .slice none 0 0] 51)).setRow w.heap.size #[.string p, .int .u8 n, .slice none 0 0]) w.heap.size 51 #[.string p, .int .u8 n, .slice none 0 0] := blk_row hb0
 have hbz : Below w.heap.size w ((w.alloc (.cells #[.string ByteArray.empty, .int .u8 0, .slice none 0 0] 51)).setRow w.heap.size #[.string p, .int .u8 n, .slice none 0 0]) := row_below ((Below.refl _ _).alloc (Nat.le_refl _) _) (Nat.le_refl _) _
 obtain ⟨Hb0, Hb1, Hbz⟩ := HH3 hb0 hb1 hbz; clear hb0 hb1 hbz
 go_enter Tryd.func36, Tryd.ntmps36
 go_wp2_with ((with_reducible show wpList _ _ _ (Oper.mk none (.store _ _ _) _ _ _ _ :: _) _ _); refine wpList_storeAtH 51 (.tmp 4) (.tmp 8) 0 #[.string ByteArray.empty, .int .u8 0, .slice none 0 0] #[.string p, .int .u8 n, .slice none 0 0] #[.string p, .int .u8 n, .slice none 0 0] rfl rfl rfl rfl Hb0.out (by kernel_rfl) (Nat.le_refl 3) (by simp [Value.oneCell']) rfl rfl ?_)
 (try simp only [Exit.inBlock, Exit.then])
 refine bodyPost_ret (results_row1 rfl _ _ _ _ _ _ rfl Hb1.out Tryd.underlying51 (by kernel_rfl)) rfl ?_
 exact ⟨rfl, Hbz.out⟩
end
end Go.Proofs.YtlipmagkplbkdaaDoor
