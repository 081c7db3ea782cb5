/- Texts of the proof that the statement of ChanceAlone holds, several in one. -/
import Derived.Test.YtlipmagkplbkdaaDoorZ8
import Derived.Deep.LoopGhost
import Derived.Deep.QuietTactic
import Derived.BigQuiet
import Derived.Deep.RegionHeld3
import Derived.Lib.ItoaLen
import Derived.Lib.ItoaNum
import Derived.Lib.ItoaMem
import Derived.Lib.AtoiTie
import Derived.Lib.Strings
set_option linter.unusedVariables false
set_option linter.unusedSimpArgs false
set_option linter.unusedSectionVars false
set_option maxRecDepth 100000
set_option maxHeartbeats 8000000
namespace Go.Proofs.YtlipmagkplbkdaaDoor
section
open Go.RowKit Go.Sort
theorem check_F (args : List Int) : checkF [⟨70, args⟩] = 0 ↔ args.all argOk = true /\ args.length <= 4 := by
 have h1 : fineF ⟨70, args⟩ = (args.all argOk && decide (args.length <= 4)) := by
  unfold fineF shapeOk
  rw [show letterB 70 = true from by decide]
  cases args with
  | nil => rfl
  | cons x l => simp
 unfold checkF
 rw [if_neg (by simp), List.all_cons, List.all_nil, Bool.and_true, h1]
 cases args.all argOk
 ·simp
 ·by_cases h : args.length <= 4
  ·simp [h, scan]
  ·simp [h]
theorem modCheck {F : Nat -> Prop} (W : World) (m : Mod) (h8 : Fits .u8 m.name) (A : Option Addr) (c : Nat) (h : SlAt (pI .i64) F W A c m.args) (hF : ∀ k, F k -> k < W.heap.size) (n : Nat) (hn : W.heap.size = n) :
  Calls Tryd.prog 42 #[.slice (some ⟨n, 0, none⟩) 1 1] (W.alloc (.cells #[.int .u8 m.name, .slice A m.args.length c] 49)) (CheckPost [m] (W.alloc (.cells #[.int .u8 m.name, .slice A m.args.length c] 49))) := by
 subst hn
 refine wordCheck_calls (some ⟨W.heap.size, 0, none⟩) 1 [m] _ ?_
 refine (sl_boxed (E := pMod) (F := F) (u := .agg #[.int .u8 m.name, .slice A m.args.length c]) ⟨A, c, by simp [Value.cells], h8, h⟩ hF).wide ?_
 intro k hk
 rcases hk with hk | rfl
 ·have := hF k hk; unfold Old; simp; omega
 ·unfold Old; simp
theorem valueF_bad {f : Frm} {args : List Int} (h : formF f args.length = false ∨ ¬ (args.all argOk = true /\ args.length <= 4)) : valueF f args = (0, 8) := by
 unfold valueF
 rw [if_neg]
 rintro ⟨h1, h2, h3⟩
 rcases h with h | h
 ·rw [h] at h1; cases h1
 ·exact h ⟨h2, h3⟩
theorem valueF_ok {f : Frm} {args : List Int} (h : SumOk f args) (hf : formF f args.length = true) : valueF f args = if worthF f args < -1000000000 ∨ 1000000000 < worthF f args then (0, 16) else (worthF f args, 0) := by
 unfold valueF
 rw [if_pos ⟨hf, List.all_eq_true.2 h.a, h.l⟩]
theorem value_calls (A : Option Addr) (c : Nat) (f : Frm) (A' : Option Addr) (c' : Nat) (args : List Int) (w : World) (h : SlAt (pI .i64) (Old w) w A c f.coefs) (h' : SlAt (pI .i64) (Old w) w A' c' args) (hc : Fits .i64 f.const) :
  Calls Tryd.prog 70 #[.agg #[.int .i64 f.const, .slice A f.coefs.length c], .slice A' args.length c'] w (PairPost (valueF f args) w) := by
 have hmx := h.lenle
 have hmx' := h'.lenle
 obtain ⟨W0, hW0⟩ : ∃ W0, W0 = w.alloc (.cells #[.int .i64 f.const, .slice A f.coefs.length c] 70) := ⟨_, rfl⟩
 have hb0 : Below w.heap.size w W0 := by rw [hW0]; exact (Below.refl _ _).alloc (Nat.le_refl _) _
 have hz0 : W0.heap.size = w.heap.size + 1 := by rw [hW0]; simp
 have hbl0 : Blk W0 w.heap.size 70 #[.int .i64 f.const, .slice A f.coefs.length c] := by rw [hW0]; exact Blk.new _ _ _
 have hF : ∀ k, Old w k -> k < W0.heap.size := fun k hk => by have : k < w.heap.size := hk; omega
 have h2 : SlAt (pI .i64) (Old w) W0 A c f.coefs := h.below hb0
 have h3 : SlAt (pI .i64) (Old w) W0 A' c' args := h'.below hb0
 have hz0' : w.heap.size < W0.heap.size := by omega
 have y0 := hbl0.cell 0
 have y1 := hbl0.cell 1
 obtain ⟨H2, H3, HF, Hb0, Hz0, Hbl0⟩ := HH6 h2 h3 hF hb0 hz0 hbl0; clear h2 h3 hF hb0 hz0 hbl0
 clear h h'
 cases hf : formF f args.length
 ·have hv := valueF_bad (args := args) (.inl hf)
  obtain ⟨Hv, HW0⟩ := HH2 hv hW0; clear hv hW0
  go_enter Tryd.func70, Tryd.ntmps70
  go_wp2_with fail
  rw [<- HW0.out]
  refine (form_calls A c f args.length W0 H2.out HF.out hc (by omega)).mono ?_
  rintro e w1 ⟨rfl, hb1⟩
  have hbw : Below w.heap.size w w1 := Hb0.out.trans (hb1.mono (by omega))
  rw [hf]
  have Hbw := HH1 hbw; clear hbw
  go_wp2
  go_ret2
  exact ⟨by rw [Hv.out]; rfl, Hbw.out⟩
 ·obtain ⟨Hf, HW0⟩ := HH2 hf hW0; clear hf hW0
  go_enter Tryd.func70, Tryd.ntmps70
  go_wp2_with fail
  rw [<- HW0.out]
  refine (form_calls A c f args.length W0 H2.out HF.out hc (by omega)).mono ?_
  rintro e w1 ⟨rfl, hb1⟩
  have hz1 := hb1.size
  have hbw1 : Below w.heap.size w w1 := Hb0.out.trans (hb1.mono (by omega))
  have hbl1 := Hbl0.out.same (hb1.block _ hz0')
  have hk2 : SlAt (pI .i64) (Old w) w1 A c f.coefs := H2.out.keep fun q hq => hb1.block q (HF.out q hq)
  have hk3 : SlAt (pI .i64) (Old w) w1 A' c' args := H3.out.keep fun q hq => hb1.block q (HF.out q hq)
  rw [Hf.out]
  obtain ⟨Hbw1, Hbl1, Hk2, Hk3⟩ := HH4 hbw1 hbl1 hk2 hk3; clear hbw1 hbl1 hk2 hk3
  clear hb1 y0 y1
  go_wp2_with fail
  ((with_reducible refine (modCheck w1 ⟨70, args⟩ (by exact fits_u8 (n := 70) (by decide)) A' c' Hk3.out (by exact fun k hk => Nat.lt_of_lt_of_le (HF.out k hk) hz1) _ rfl).mono ?_))
  rintro e w2 ⟨rfl, hb2⟩
  have hz2 : w1.heap.size + 1 <= w2.heap.size := by have := hb2.size; simpa using this
  have hbw2 : Below w.heap.size w w2 := (Hbw1.out.alloc (by omega) _).trans (hb2.mono (by simp; omega))
  have hbo2 : ∀ q, q < w1.heap.size -> w2.heap[q]? = w1.heap[q]? := fun q hq => (hb2.block q (by simp; omega)).trans (Below.heap_alloc _ _ _ hq)
  have hbl2 := Hbl1.out.same (hbo2 _ (by omega))
  have hj2 : SlAt (pI .i64) (Old w) w2 A c f.coefs := Hk2.out.keep fun q hq => hbo2 q (Nat.lt_of_lt_of_le (HF.out q hq) hz1)
  have hj3 : SlAt (pI .i64) (Old w) w2 A' c' args := Hk3.out.keep fun q hq => hbo2 q (Nat.lt_of_lt_of_le (HF.out q hq) hz1)
  have y0 := hbl2.cell 0
  have y1 := hbl2.cell 1
  obtain ⟨Hbw2, Hj2, Hj3⟩ := HH3 hbw2 hj2 hj3; clear hbw2 hj2 hj3
  clear hb2 hbo2 hbl2
  have hcf := check_F args
  by_cases hck : checkF [⟨70, args⟩] = 0
  ·have hok : SumOk f args := sumOk Hf.out (hcf.1 hck).1 (hcf.1 hck).2
   have hbd := worth_bd hok
   have hv := valueF_ok hok Hf.out
   have e0 : (checkF [⟨70, args⟩] != 0) = false := by simp [hck]
   obtain ⟨Hck, Hok, Hv⟩ := HH3 hck hok hv; clear hck hok hv
   clear hcf
   go_wp2_with fail
   refine (worth_calls A c f A' c' args w2 Hj2.out Hj3.out (by exact fun k hk => by have := HF.out k hk; omega) Hok.out).mono ?_
   rintro e w3 ⟨rfl, hb3⟩
   have hbw3 : Below w.heap.size w w3 := Hbw2.out.trans (hb3.mono (by omega))
   have Hbw3 := HH1 hbw3; clear hbw3
   clear hb3
   obtain ⟨v, hvv⟩ : ∃ v, worthF f args = v := ⟨_, rfl⟩
   have Hvv := HH1 hvv
   rw [hvv] at hbd ⊢
   clear hvv
   by_cases h0 : v < -1000000000
   ·go_wp2
    go_ret2
    exact ⟨by rw [Hv.out, Hvv.out, if_pos (.inl (by omega))]; rfl, Hbw3.out⟩
   ·by_cases h1 : 1000000000 < v
    ·go_wp2
     go_ret2
     exact ⟨by rw [Hv.out, Hvv.out, if_pos (.inr (by omega))]; rfl, Hbw3.out⟩
    ·go_wp2
     go_ret2
     exact ⟨by rw [Hv.out, Hvv.out, if_neg (by omega)]; rfl, Hbw3.out⟩
  ·have hv := valueF_bad (f := f) (args := args) (.inr fun h => hck (hcf.2 h))
   have e0 : (checkF [⟨70, args⟩] != 0) = true := by simp [hck]
   have Hv := HH1 hv; clear hv
   clear hcf hck
   go_wp2
   go_ret2
   exact ⟨by rw [Hv.out]; rfl, Hbw2.out⟩
end
section
open Go.RowKit Go.Sort
theorem coreR_cases (r : Rul) : (coreR r = false /\ ((letterB r.name = false) ∨ (letterB r.name = true /\ (r.name == 91) = true) ∨ (letterB r.name = true /\ (r.name == 91) = false /\ (r.name == 93) = true) ∨
   (letterB r.name = true /\ (r.name == 91) = false /\ (r.name == 93) = false /\ r.arity < 0) ∨ (letterB r.name = true /\ (r.name == 91) = false /\ (r.name == 93) = false /\ ¬ r.arity < 0 /\ 4 < r.arity))) ∨
  (letterB r.name = true /\ (r.name == 91) = false /\ (r.name == 93) = false /\ ¬ r.arity < 0 /\ ¬ 4 < r.arity /\
   coreR r = (r.guards.all (fun f => formF f r.arity.toNat) && (r.out.all (fun s => s.args.all (fun f => formF f r.arity.toNat)) && checkF (r.out.map fun s => ⟨s.name, List.replicate s.args.length 0⟩) == 0))) := by
 cases hl : letterB r.name
 ·left; exact ⟨by unfold coreR; simp [hl], .inl rfl⟩
 by_cases h3 : r.name = 91
 ·left; exact ⟨by unfold coreR; simp [h3], .inr (.inl ⟨rfl, by simp [h3]⟩)⟩
 by_cases h4 : r.name = 93
 ·left; exact ⟨by unfold coreR; simp [h4], .inr (.inr (.inl ⟨rfl, by simp [h3], by simp [h4]⟩))⟩
 by_cases h1 : r.arity < 0
 ·left; exact ⟨by unfold coreR; simp; omega, .inr (.inr (.inr (.inl ⟨rfl, by simp [h3], by simp [h4], h1⟩)))⟩
 by_cases h2 : 4 < r.arity
 ·left; exact ⟨by unfold coreR; simp; omega, .inr (.inr (.inr (.inr ⟨rfl, by simp [h3], by simp [h4], h1, h2⟩)))⟩
 right
 refine ⟨rfl, by simp [h3], by simp [h4], h1, h2, ?_⟩
 unfold coreR
 simp only [hl, show (r.name != 91) = true by simp [h3], show (r.name != 93) = true by simp [h4], show decide (0 <= r.arity) = true by simp; omega, show decide (r.arity <= 4) = true by simp; omega, Bool.true_and, Bool.and_true, Bool.and_assoc]
theorem checkF_bad {ms : List Mod} {m : Mod} (hm : m ∈ ms) (hf : fineF m = false) (hl : ms.length <= 2000) : checkF ms = 8 := by
 unfold checkF
 rw [if_neg (by omega), if_pos]
 rw [List.all_eq_false]
 exact ⟨m, hm, by simp [hf]⟩
structure MadeM (wp W : World) (nm : Int) (n : Nat) (sh : Array Value) (gz gm : Nat) : Prop where
 bel : Below wp.heap.size wp W
 sz : wp.heap.size + 3 <= W.heap.size
 bs : Blk W wp.heap.size 72 sh
 bm : Blk W gm 49 #[.int .u8 nm, .slice (some ⟨gz, 0, none⟩) n n]
 zs : SlAt (pI .i64) (fun q => q = gz) W (some ⟨gz, 0, none⟩) n (List.replicate n 0)
 gt : wp.heap.size < gz /\ gz < W.heap.size /\ wp.heap.size < gm /\ gm < W.heap.size
theorem madeM1 (wp : World) (nm : Int) (n : Nat) (hn : n <= 1000) (sh Z : Array Value) (hZ : madeCells #[Value.int .i64 0] n = Z) :
  MadeM wp (((wp.alloc (.cells sh 72)).alloc (.cells Z 3)).alloc (.cells #[.int .u8 nm, .slice (some ⟨wp.heap.size + 1, 0, none⟩) n n] 49)).drew nm n sh (wp.heap.size + 1) (wp.heap.size + 1 + 1) := by
 subst hZ
 have h1 := Blk.new (wp.alloc (.cells sh 72)) 3 (madeCells #[Value.int .i64 0] n)
 have h2 := Blk.new ((wp.alloc (.cells sh 72)).alloc (.cells (madeCells #[Value.int .i64 0] n) 3)) 49 #[.int .u8 nm, .slice (some ⟨wp.heap.size + 1, 0, none⟩) n n]
 rw [show (wp.alloc (.cells sh 72)).heap.size = wp.heap.size + 1 from by simp] at h1
 rw [show ((wp.alloc (.cells sh 72)).alloc (.cells (madeCells #[Value.int .i64 0] n) 3)).heap.size = wp.heap.size + 1 + 1 from by simp] at h2
 exact ⟨below_drew ((((Below.refl _ _).alloc (Nat.le_refl _) _).alloc (by simp) _).alloc (by simp; omega) _), by simp, ((Blk.new _ _ _).alloc _).alloc _, h2, (zeros_sl (F := fun q => q = wp.heap.size + 1) (h1.alloc _) rfl (by unfold maxLen; omega)).keep fun _ _ => rfl, by simp; omega⟩
theorem madeM2 (wp : World) (nm : Int) (n : Nat) (hn : n <= 1000) (sh Z : Array Value) (hZ : madeCells #[Value.int .i64 0] n = Z) :
  MadeM wp (((wp.alloc (.cells sh 72)).alloc (.cells #[.int .u8 nm, .slice (some ⟨wp.heap.size + 1 + 1, 0, none⟩) n n] 49)).alloc (.cells Z 3)).drew nm n sh (wp.heap.size + 1 + 1) (wp.heap.size + 1) := by
 subst hZ
 have h1 := Blk.new (wp.alloc (.cells sh 72)) 49 #[.int .u8 nm, .slice (some ⟨wp.heap.size + 1 + 1, 0, none⟩) n n]
 have h2 := Blk.new ((wp.alloc (.cells sh 72)).alloc (.cells #[.int .u8 nm, .slice (some ⟨wp.heap.size + 1 + 1, 0, none⟩) n n] 49)) 3 (madeCells #[Value.int .i64 0] n)
 rw [show (wp.alloc (.cells sh 72)).heap.size = wp.heap.size + 1 from by simp] at h1
 rw [show ((wp.alloc (.cells sh 72)).alloc (.cells #[.int .u8 nm, .slice (some ⟨wp.heap.size + 1 + 1, 0, none⟩) n n] 49)).heap.size = wp.heap.size + 1 + 1 from by simp] at h2
 exact ⟨below_drew ((((Below.refl _ _).alloc (Nat.le_refl _) _).alloc (by simp) _).alloc (by simp; omega) _), by simp, ((Blk.new _ _ _).alloc _).alloc _, h1.alloc _, (zeros_sl (F := fun q => q = wp.heap.size + 1 + 1) h2 rfl (by unfold maxLen; omega)).keep fun _ _ => rfl, by simp; omega⟩
theorem refRFine_calls (r : Rul) (A : Option Addr) (c : Nat) (A' : Option Addr) (c' : Nat) (w : World) (h : RulAt r (Old w) w A c A' c') (hg10 : r.guards.length <= 10) (ho30 : r.out.length <= 30) (ha10 : ∀ s ∈ r.out, s.args.length <= 10) :
  Calls Tryd.prog 51 #[.agg #[.int .u8 r.name, .int .i64 r.arity, .int .u8 r.left, .int .u8 r.right, .slice A r.guards.length c, .int .i64 r.weight, .slice A' r.out.length c']] w (BoolPost (coreR r) w) := by
 have hcase := coreR_cases r
 have hn := h.fn
 have hai := h.fa.i64
 have hbx : Blk (w.alloc (.cells #[.int .u8 r.name, .int .i64 r.arity, .int .u8 r.left, .int .u8 r.right, .slice A r.guards.length c, .int .i64 r.weight, .slice A' r.out.length c'] 60)) w.heap.size 60 #[.int .u8 r.name, .int .i64 r.arity, .int .u8 r.left, .int .u8 r.right, .slice A r.guards.length c, .int .i64 r.weight, .slice A' r.out.length c'] := Blk.new _ _ _
 have hb0 : Below w.heap.size w (w.alloc (.cells #[.int .u8 r.name, .int .i64 r.arity, .int .u8 r.left, .int .u8 r.right, .slice A r.guards.length c, .int .i64 r.weight, .slice A' r.out.length c'] 60)) := (Below.refl _ _).alloc (Nat.le_refl _) _
 have hz0 : (w.alloc (.cells #[.int .u8 r.name, .int .i64 r.arity, .int .u8 r.left, .int .u8 r.right, .slice A r.guards.length c, .int .i64 r.weight, .slice A' r.out.length c'] 60)).heap.size = w.heap.size + 1 := by simp
 obtain ⟨H, Ha10, Hbx, Hb0, Hz0⟩ := HH5 h ha10 hbx hb0 hz0; clear h ha10 hbx hb0 hz0
 rcases hcase with ⟨hno, hc⟩ | ⟨hl, h3, h4, h1, h2, hyes⟩
 ·have Hno := HH1 hno; clear hno
  go_enter Tryd.func51, Tryd.ntmps51
  rcases hc with hl | ⟨hl, h3⟩ | ⟨hl, h3, h4⟩ | ⟨hl, h3, h4, h1⟩ | ⟨hl, h3, h4, h1, h2⟩
  all_goals
   go_wp2_with (go_at_call 55; refine (letter_calls _ _).mono ?_; rintro e w' ⟨rfl, rfl⟩)
   go_ret
   exact ⟨by rw [Hno.out]; rfl, Hb0.out⟩
 ·have hr4 : 0 <= r.arity /\ r.arity <= 4 := by omega
  have Hyes := HH1 hyes; clear hyes
  go_enter Tryd.func51, Tryd.ntmps51
  go_wp2_with (go_at_call 55; refine (letter_calls _ _).mono ?_; rintro e w' ⟨rfl, rfl⟩)
  obtain ⟨W0, hW0⟩ : ∃ W0, W0 = w.alloc (.cells #[.int .u8 r.name, .int .i64 r.arity, .int .u8 r.left, .int .u8 r.right, .slice A r.guards.length c, .int .i64 r.weight, .slice A' r.out.length c'] 60) := ⟨_, rfl⟩
  rw [<- hW0] at Hbx Hb0 Hz0 ⊢
  have HW0 := HH1 hW0; clear hW0
  have hz0' : w.heap.size + 1 <= W0.heap.size := by have := Hz0.out; omega
  go_loopw [3] (fun i wr => ∃ k : Nat, k <= r.guards.length /\ i = .int .i64 k /\ Hid (Below (w.heap.size + 1) W0 wr) /\ w.heap.size + 1 <= wr.heap.size /\ Hid (r.guards.all (fun f => formF f r.arity.toNat) = (r.guards.drop k).all (fun f => formF f r.arity.toNat))) (fun i _ => r.guards.length - (intOf i).toNat)
  case atStart => exact ⟨0, Nat.zero_le _, rfl, Below.refl _ _, hz0', rfl⟩
  case round =>
   obtain ⟨k, hk, rfl, hb, hsz, hall⟩ := hrel
   obtain ⟨wo, rfl⟩ : ∃ wo : World, wo = wr := ⟨_, rfl⟩
   have hblo := Hbx.out.same (hb.out.block _ (Nat.lt_succ_self _))
   have hbwo : Below w.heap.size w wo := Hb0.out.trans (hb.out.mono (Nat.le_succ _))
   have Hbwo := HH1 hbwo; clear hbwo
   by_cases hlt : k < r.guards.length
   ·obtain ⟨b, o, As, cs, f, hd, rfl, hob, hs0, hs1, hsc, hsa, hsl⟩ := (H.out.sg.below Hbwo.out).getFrm hlt
    obtain ⟨z0, z1, z2, z3, z4, z5, z6⟩ := hblo.rul
    have kx0 := cell_regrown hs0
    have kx1 := cell_regrown hs1
    have kz1 := cell_regrown z1
    have kz4 := cell_regrown z4
    have hk0 : (0 : Int) <= (k : Int) := Int.natCast_nonneg _
    have hk1 : (k : Int) < (r.guards.length : Int) := by omega
    have hcall : ∀ (q : Nat) (os : Array Obj), Calls Tryd.prog 66 #[.agg #[.int .i64 f.const, .slice As f.coefs.length cs], .int .i64 r.arity] (grow (redrawn wo q) os) fun e w'' => e = .returned (.bool (formF f r.arity.toNat)) /\ ∃ p : Regrown, w'' = grow (redrawn wo p.d) p.os := fun q os =>
     have hg := below_regrown wo q os
     Calls.regrown_of (refForm_int As cs f r.arity _ (hsa.out.keep fun k hk => hg.block k (by have : k < w.heap.size := hk; omega)) (fun k hk => by have : k < w.heap.size := hk; have := hg.size; omega) hsc hr4)
    obtain ⟨Hcall, Hblo⟩ := HH2 hcall hblo; clear hcall hblo
    clear z0 z1 z2 z3 z5 z6 hs0 hs1
    generalize hmn : formF f r.arity.toNat = t at Hcall
    have Hmn := HH1 hmn; clear hmn
    go_wp2
    refine wp_region_quiet_below (by kernel_rfl) (by kernel_rfl) ?_
    repeat (quiet_step (exact Hcall.out _ _))
    refine wpQuiet_nil ?_
    intro _ hw'
    obtain ⟨⟨dq, osq⟩, hw''⟩ := hw'
    subst hw''
    have hbr := below_regrown wo dq osq
    have hbw : Below w.heap.size w (grow (redrawn wo dq) osq) := Hbwo.out.trans (hbr.mono (by omega))
    have hb1 : Below (w.heap.size + 1) W0 (grow (redrawn wo dq) osq) := hb.out.trans (hbr.mono hsz)
    have hz1 := hbr.size
    obtain ⟨Hbw, Hb1⟩ := HH2 hbw hb1; clear hbw hb1
    clear hbr kx0 kx1 kz1 kz4
    cases t
    ·go_wp2
     go_ret
     refine ⟨ret_bool ?_, Hbw.out⟩
     rw [Hyes.out, hall.out, hd.out, List.all_cons, Hmn.out]; rfl
    ·go_wp2
     go_roundw
     case rel =>
      refine ⟨k + 1, by omega, by go_num, Hb1, by omega, ?_⟩
      unfold Hid; rw [hall.out, hd.out, List.all_cons, Hmn.out]; rfl
     case measure => simp [intOf]; omega
   ·have hgs : coreR r = (r.out.all (fun s => s.args.all (fun f => formF f r.arity.toNat)) && checkF (modsK r r.out.length) == 0) := by
     rw [Hyes.out, hall.out, drop_end hlt]; unfold modsK; rw [List.take_length]; rfl
    obtain ⟨z0, z1, z2, z3, z4, z5, z6⟩ := hblo.rul
    obtain ⟨Hgs, Hblo⟩ := HH2 hgs hblo; clear hgs hblo
    clear hall z0 z1 z2 z3 z5
    go_wp2
    clear hlt z4 z6
    go_loopw [5, 4] (fun i ws wr => ∃ k : Nat, k <= r.out.length /\ i = .int .i64 k /\ Hid (Below (w.heap.size + 1) wo wr) /\ w.heap.size + 1 <= wr.heap.size /\ Hid (r.out.all (fun s => s.args.all (fun f => formF f r.arity.toNat)) = (r.out.drop k).all (fun s => s.args.all (fun f => formF f r.arity.toNat))) /\
     ∃ Aw cw, ws = .slice Aw k cw /\ Hid (Own pMod 49 (w.heap.size + 1) (w.heap.size < ·) wr ws (modsK r k))) (fun i _ _ => r.out.length - (intOf i).toNat)
    case atStart => exact ⟨0, Nat.zero_le _, rfl, Below.refl _ _, hsz, rfl, none, 0, rfl, Own.nil⟩
    case round =>
     obtain ⟨k2, hk2, rfl, hb2, hsz2, hall2, Aw, cw, rfl, how⟩ := hrel
     obtain ⟨wp, rfl⟩ : ∃ wp : World, wp = wr := ⟨_, rfl⟩
     have hblp := Hblo.out.same (hb2.out.block _ (Nat.lt_succ_self _))
     have hbwp : Below w.heap.size w wp := Hbwo.out.trans (hb2.out.mono (Nat.le_succ _))
     obtain ⟨z0, z1, z2, z3, z4, z5, z6⟩ := hblp.rul
     clear z0 z2 z3 z4 z5
     obtain ⟨Hbwp, Hblp⟩ := HH2 hbwp hblp; clear hbwp hblp
     by_cases hlt : k2 < r.out.length
     ·obtain ⟨b, o, As, cs, s, hd, rfl, hob, hs0, hs1, hs8, hsa, hsl⟩ := (H.out.so.below Hbwp.out).getShp hlt
      have hob' : b < wp.heap.size := by have : b < w.heap.size := hob; omega
      have hwl : w.heap.size < wp.heap.size := by omega
      have hk0 : (0 : Int) <= (k2 : Int) := Int.natCast_nonneg _
      have hk1 : (k2 : Int) < (r.out.length : Int) := by omega
      have hal : s.args.length <= 10 := Ha10.out _ (mem_of_drop hd.out)
      obtain ⟨Z, hZ⟩ : ∃ Z, madeCells #[Value.int .i64 0] s.args.length = Z := ⟨_, rfl⟩
      have hmk := fun (wx : World) => run_make_rowN (P := Tryd.prog) (t := 47) (e := 3) Tryd.underlying47 info_intC s.args.length (by omega) (by omega) wx
      rw [show madeCells (Value.int .i64 0).cells (s.args.length * 1) = Z from by rw [Nat.mul_one]; exact hZ] at hmk
      have hmm1 := madeM1 wp s.name s.args.length (by omega) #[.int .u8 s.name, .slice As s.args.length cs] Z hZ
      have hmm2 := madeM2 wp s.name s.args.length (by omega) #[.int .u8 s.name, .slice As s.args.length cs] Z hZ
      obtain ⟨HZ, Hmm1, Hmm2⟩ := HH3 hZ hmm1 hmm2; clear hZ hmm1 hmm2
      go_wp2_with fail
      go_region_held3 (fun w' => w'.cell? ⟨wp.heap.size, 0, none⟩ = some (.int .u8 s.name) /\ w'.cell? ⟨wp.heap.size, 1, none⟩ = some (.slice As s.args.length cs))
       (first | go_keep)
       (fail)
      all_goals go_wp2_with fail
      have hmm1 := Hmm1.out
      clear Hmm1 Hmm2
      generalize (((wp.alloc (.cells #[.int .u8 s.name, .slice As s.args.length cs] 72)).alloc (.cells Z 3)).alloc (.cells #[.int .u8 s.name, .slice (some ⟨wp.heap.size + 1, 0, none⟩) s.args.length s.args.length] 49)).drew = W3 at hmm1 ⊢
      generalize wp.heap.size + 1 + 1 = gm at hmm1 ⊢
      generalize wp.heap.size + 1 = gz at hmm1 ⊢
      rotate_left
      have hmm1 := Hmm2.out
      clear Hmm1 Hmm2
      generalize (((wp.alloc (.cells #[.int .u8 s.name, .slice As s.args.length cs] 72)).alloc (.cells #[.int .u8 s.name, .slice (some ⟨wp.heap.size + 1 + 1, 0, none⟩) s.args.length s.args.length] 49)).alloc (.cells Z 3)).drew = W3 at hmm1 ⊢
      generalize wp.heap.size + 1 + 1 = gz at hmm1 ⊢
      generalize wp.heap.size + 1 = gm at hmm1 ⊢
      all_goals
       obtain ⟨mbel, msz, mbs, mbm, mzs, mg1, mg2, mg3, mg4⟩ := hmm1
       have hcf := refFine_calls (some ⟨gz, 0, none⟩) s.args.length ⟨s.name, List.replicate s.args.length 0⟩ W3 mzs (fun k hk => by subst hk; exact mg2)
       simp only [List.length_replicate] at hcf
       obtain ⟨Hcf, Mbel, Mbs, Mbm, Mzs⟩ := HH5 hcf mbel mbs mbm mzs; clear hcf mbel mbs mbm mzs
       clear hmk hs0 hs1 z1 z6
       refine Hcf.out.mono ?_
       rintro e w5 ⟨rfl, hb5⟩
       have hz5 := hb5.size
       have hbp5 : Below wp.heap.size wp w5 := Mbel.out.trans (hb5.mono (by omega))
       have hbs5 := Mbs.out.same (hb5.block _ (by omega))
       have hbm5 := Mbm.out.same (hb5.block _ mg4)
       have hzs5 := Mzs.out.keep (w' := w5) fun q hq => hb5.block q (by subst hq; exact mg2)
       obtain ⟨Hbp5, Hbs5, Hbm5, Hzs5⟩ := HH4 hbp5 hbs5 hbm5 hzs5; clear hbp5 hbs5 hbm5 hzs5
       clear hb5
       cases hfm : fineF ⟨s.name, List.replicate s.args.length 0⟩
       ·have hno : coreR r = false := by
         rw [Hgs.out, checkF_bad (m := ⟨s.name, List.replicate s.args.length 0⟩) _ hfm (by unfold modsK; simp; omega)]
         ·simp
         ·unfold modsK; rw [List.take_length]; exact List.mem_map.2 ⟨s, mem_of_drop hd.out, rfl⟩
        have Hno := HH1 hno; clear hno
        go_wp2
        go_ret
        exact ⟨by rw [Hno.out]; rfl, Hbwp.out.trans (Hbp5.out.mono (by omega))⟩
       ·clear hfm
        go_wp2
        go_loopw [8] (fun i wr => ∃ k3 : Nat, k3 <= s.args.length /\ i = .int .i64 k3 /\ Hid (Below w5.heap.size w5 wr) /\ w5.heap.size <= wr.heap.size /\ Hid (s.args.all (fun f => formF f r.arity.toNat) = (s.args.drop k3).all (fun f => formF f r.arity.toNat))) (fun i _ => s.args.length - (intOf i).toNat)
        case atStart => exact ⟨0, Nat.zero_le _, rfl, Below.refl _ _, Nat.le_refl _, rfl⟩
        case round =>
         obtain ⟨k3, hk3, rfl, hb3, hsz3, hall3⟩ := hrel
         obtain ⟨wq, rfl⟩ : ∃ wq : World, wq = wr := ⟨_, rfl⟩
         have hbpq : Below wp.heap.size wp wq := Hbp5.out.trans (hb3.out.mono (by omega))
         have hbsq := Hbs5.out.same (hb3.out.block _ (by omega))
         have hblq := Hblp.out.same (hbpq.block _ hwl)
         have y0 := hbsq.cell 0
         have y1 := hbsq.cell 1
         obtain ⟨x0, x1, x2, x3, x4, x5, x6⟩ := hblq.rul
         clear x0 x2 x3 x4 x5
         obtain ⟨Hbpq, Hbsq, Hblq⟩ := HH3 hbpq hbsq hblq; clear hbpq hbsq hblq
         by_cases hlt3 : k3 < s.args.length
         ·obtain ⟨b4, o4, A4, c4, f, hd4, rfl, hob4, hf0, hf1, hfc, hfa, hfl⟩ := (hsa.out.keep fun q hq => Hbpq.out.block q (by have : q < w.heap.size := hq; omega)).getFrm hlt3
          have ky1 := cell_regrown y1
          have kx1 := cell_regrown x1
          have kf0 := cell_regrown hf0
          have kf1 := cell_regrown hf1
          have hk30 : (0 : Int) <= (k3 : Int) := Int.natCast_nonneg _
          have hk31 : (k3 : Int) < (s.args.length : Int) := by omega
          have hcall : ∀ (q : Nat) (os : Array Obj), Calls Tryd.prog 66 #[.agg #[.int .i64 f.const, .slice A4 f.coefs.length c4], .int .i64 r.arity] (grow (redrawn wq q) os) fun e w'' => e = .returned (.bool (formF f r.arity.toNat)) /\ ∃ p : Regrown, w'' = grow (redrawn wq p.d) p.os := fun q os =>
           have hg := below_regrown wq q os
           Calls.regrown_of (refForm_int A4 c4 f r.arity _ (hfa.out.keep fun k hk => hg.block k (by have : k < w.heap.size := hk; omega)) (fun k hk => by have : k < w.heap.size := hk; have := hg.size; omega) hfc hr4)
          have Hcall := HH1 hcall; clear hcall
          clear y0 x1 x6 hf0 hf1
          generalize hmn : formF f r.arity.toNat = t at Hcall
          have Hmn := HH1 hmn; clear hmn
          go_wp2
          refine wp_region_quiet_below (by kernel_rfl) (by kernel_rfl) ?_
          repeat (quiet_step (exact Hcall.out _ _))
          refine wpQuiet_nil ?_
          intro _ hw'
          obtain ⟨⟨dq, osq⟩, hw''⟩ := hw'
          subst hw''
          have hbr := below_regrown wq dq osq
          have hzr := hbr.size
          have hbp6 : Below wp.heap.size wp (grow (redrawn wq dq) osq) := Hbpq.out.trans (hbr.mono (by omega))
          obtain ⟨Hbr, Hbp6⟩ := HH2 hbr hbp6; clear hbr hbp6
          clear ky1 kx1 kf0 kf1
          cases t
          ·have hno : coreR r = false := by
            rw [Hgs.out, hall2.out, hd.out, List.all_cons, hall3.out, hd4.out, List.all_cons, Hmn.out]; rfl
           have Hno := HH1 hno; clear hno
           go_wp2
           go_ret
           exact ⟨by rw [Hno.out]; rfl, Hbwp.out.trans (Hbp6.out.mono (by omega))⟩
          ·go_wp2
           go_roundw
           case rel =>
            refine ⟨k3 + 1, by omega, by go_num, hb3.out.trans (Hbr.out.mono hsz3), by omega, ?_⟩
            unfold Hid; rw [hall3.out, hd4.out, List.all_cons, Hmn.out]; rfl
           case measure => simp [intOf]; omega
         ·have hbmq := Hbm5.out.same (hb3.out.block _ (by omega))
          have v0 := hbmq.cell 0
          have v1 := hbmq.cell 1
          have hzsq := Hzs5.out.keep (w' := wq) fun q hq => hb3.out.block q (by subst hq; omega)
          have howq : Own pMod 49 (w.heap.size + 1) (w.heap.size < ·) wq (.slice Aw k2 cw) (modsK r k2) := how.out.later Hbpq.out
          have hR : pMod.R (fun q => q = gz) wq [.int .u8 s.name, .slice (some ⟨gz, 0, none⟩) s.args.length s.args.length] ⟨s.name, List.replicate s.args.length 0⟩ :=
           ⟨some ⟨gz, 0, none⟩, s.args.length, by simp, hs8, hzsq⟩
          have hF : ∀ q, (q = gz) -> w.heap.size < q /\ q < wq.heap.size /\ some q ≠ (Value.slice Aw k2 cw).ownBlock := fun q hq => by
           subst hq
           refine ⟨by omega, by omega, fun he => ?_⟩
           have := how.out.lt _ he.symm
           omega
          have hlk : (modsK r k2).length + 1 = k2 + 1 := by unfold modsK; simp; omega
          have hrk : Room (k2 + 1) := room_of (by omega)
          have hbq : w.heap.size + 1 <= wq.heap.size := by omega
          obtain ⟨Howq, HR, HF, Hlk, Hrk⟩ := HH5 howq hR hF hlk hrk; clear howq hR hF hlk hrk
          clear y0
          go_wp2_with ((with_reducible show wpList _ _ _ (Oper.mk (some 89) _ _ _ _ _ :: _) _ _); refine pushMod (xs := modsK r k2) (base := w.heap.size + 1) (G := (w.heap.size < ·)) 89 (.tmp 87) (.tmp 88) rfl rfl rfl rfl rfl (fun _ => rfl) (fun _ => rfl) Howq.out s.name (some ⟨gz, 0, none⟩) s.args.length s.args.length rfl ⟨s.name, List.replicate s.args.length 0⟩ (fun q => q = gz) HR.out HF.out (k2 + 1) Hlk.out Hrk.out hbq ?_; intro A6 c6 w6 hown6 hg6)
          go_roundw
          case rel =>
           have hz6 := hg6.out.bel.size
           refine ⟨k2 + 1, by omega, by go_num, (hb2.out.trans (Hbpq.out.mono hsz2)).trans hg6.out.bel, by omega, ?_, A6, c6, rfl, ?_⟩
           ·unfold Hid; rw [hall2.out, hd.out, List.all_cons, hall3.out, drop_end hlt3]; rfl
           ·have h2 : modsK r (k2 + 1) = modsK r k2 ++ [⟨s.name, List.replicate s.args.length 0⟩] := by unfold modsK; rw [take_of_drop hd.out, List.map_append]; rfl
            unfold Hid; rw [h2]; exact hown6.out
          case measure => simp [intOf]; omega
     ·obtain rfl : k2 = r.out.length := by omega
      have ha : coreR r = (checkF (modsK r r.out.length) == 0) := by rw [Hgs.out, hall2.out, drop_end hlt]; rfl
      obtain ⟨hlw, hsw⟩ := how.out.sl'
      have hck : Calls Tryd.prog 38 #[.slice Aw r.out.length cw] wp (CheckPost (modsK r r.out.length) wp) := by
       have := refCheck_calls Aw cw (modsK r r.out.length) wp (hsw.wide fun q hq => hq.2)
       rwa [hlw] at this
      obtain ⟨Ha, Hck⟩ := HH2 ha hck; clear ha hck
      clear hlw hsw
      go_wp2_with fail
      refine Hck.out.mono ?_
      rintro e w5 ⟨rfl, hb5⟩
      have hbw5 : Below w.heap.size w w5 := Hbwp.out.trans (hb5.mono (by omega))
      have Hbw5 := HH1 hbw5; clear hbw5
      clear hb5
      go_wp2
      go_ret
      exact ⟨by rw [Ha.out]; rfl, Hbw5.out⟩
end
section
open Go.RowKit Go.Sort
structure Small (rs : List Rul) : Prop where
 l : rs.length <= 50
 g : ∀ r ∈ rs, r.guards.length <= 10
 o : ∀ r ∈ rs, r.out.length <= 30
 a : ∀ r ∈ rs, ∀ s ∈ r.out, s.args.length <= 10
theorem RulAt.to {r : Rul} {w wo W : World} {A : Option Addr} {c : Nat} {A' : Option Addr} {c' : Nat} (h : RulAt r (Old w) wo A c A' c') (hs : w.heap.size <= wo.heap.size) (hb : Below wo.heap.size wo W) : RulAt r (Old W) W A c A' c' :=
 have hk : ∀ q, Old w q -> W.heap[q]? = wo.heap[q]? := fun q hq => hb.block q (Nat.lt_of_lt_of_le hq hs)
 have hw : ∀ q, Old w q -> Old W q := fun _ hq => Nat.lt_of_lt_of_le hq (Nat.le_trans hs hb.size)
 ⟨h.fn, h.fa, h.fl, h.fr, h.fw, (h.sg.keep hk).wide hw, (h.so.keep hk).wide hw⟩
theorem SlAt.getRulAt {F : Nat -> Prop} {w : World} {A : Option Addr} {cap : Nat} {xs : List Rul} (h : SlAt pRul F w A cap xs) {i : Nat} (hi : i < xs.length) :
  ∃ b o A' c' A'' c'' m, Hid (xs.drop i = m :: xs.drop (i + 1)) /\ A = some ⟨b, o, none⟩ /\ F b /\
   w.cell? ⟨b, o + i * 7, none⟩ = some (.int .u8 m.name) /\ w.cell? ⟨b, o + i * 7 + 1, none⟩ = some (.int .i64 m.arity) /\ w.cell? ⟨b, o + i * 7 + 2, none⟩ = some (.int .u8 m.left) /\ w.cell? ⟨b, o + i * 7 + 3, none⟩ = some (.int .u8 m.right) /\
   w.cell? ⟨b, o + i * 7 + 4, none⟩ = some (.slice A' m.guards.length c') /\ w.cell? ⟨b, o + i * 7 + 5, none⟩ = some (.int .i64 m.weight) /\ w.cell? ⟨b, o + i * 7 + 6, none⟩ = some (.slice A'' m.out.length c'') /\
   Hid (RulAt m F w A' c' A'' c'') /\ m.guards.length <= 9223372036854775807 /\ m.out.length <= 9223372036854775807 := by
 obtain ⟨b, o, A', c', A'', c'', m, h0, h1, h2, k0, k1, k2, k3, k4, k5, k6, ⟨f1, f2, f3, f4, f5⟩, hg, ho, l1, l2⟩ := h.getRul hi
 exact ⟨b, o, A', c', A'', c'', m, h0, h1, h2, k0, k1, k2, k3, k4, k5, k6, ⟨f1, f2, f3, f4, f5, hg.out, ho.out⟩, l1, l2⟩
def manyB (r : Rul) : Bool := decide (4 < r.guards.length) || decide (20 < r.out.length)
theorem manyR_of {rs : List Rul} (h : ¬ 40 < rs.length) : manyR rs = rs.any manyB := by
 unfold manyR manyB; rw [show decide (40 < rs.length) = false from by simpa using h]; rfl
theorem manyB_no {r : Rul} (h1 : ¬ 4 < r.guards.length) (h2 : ¬ 20 < r.out.length) : manyB r = false := by unfold manyB; simp; omega
theorem manyB_yes {r : Rul} (h : 4 < r.guards.length ∨ 20 < r.out.length) : manyB r = true := by unfold manyB; simp; omega
theorem many_calls {F : Nat -> Prop} (A : Option Addr) (c : Nat) (rs : List Rul) (w : World) (h : SlAt pRul F w A c rs) :
  Calls Tryd.prog 50 #[.slice A rs.length c] w fun e w' => e = .returned (.bool (manyR rs)) /\ w = w' := by
 have hmx := h.lenle
 have H := HH1 h; clear h
 by_cases hbig : 40 < rs.length
 ·go_enter Tryd.func50, Tryd.ntmps50
  go_wp2
  go_ret
  exact ⟨ret_bool (by unfold manyR; simp [hbig]), rfl⟩
 ·have hm := manyR_of hbig
  have Hm := HH1 hm; clear hm
  go_enter Tryd.func50, Tryd.ntmps50
  go_wp2
  go_loop [3] (fun i => ∃ k : Nat, k <= rs.length /\ i = .int .i64 k /\ Hid (rs.any manyB = (rs.drop k).any manyB)) (fun i => rs.length - (intOf i).toNat)
  case atStart => exact ⟨0, Nat.zero_le _, rfl, rfl⟩
  case round =>
   obtain ⟨k, hk, rfl, hall⟩ := hrel
   by_cases hlt : k < rs.length
   ·obtain ⟨b, o, A1, c1, A2, c2, r, hd, rfl, hob, k0, k1, k2, k3, k4, k5, k6, _, hl1, hl2⟩ := H.out.getRulAt hlt
    clear k0 k1 k2 k3 k5
    by_cases hg : 4 < r.guards.length
    ·go_wp2
     go_ret
     exact ⟨ret_bool (by rw [Hm.out, hall.out, hd.out, List.any_cons, manyB_yes (.inl hg)]; rfl), rfl⟩
    ·by_cases ho : 20 < r.out.length
     ·go_wp2
      go_ret
      exact ⟨ret_bool (by rw [Hm.out, hall.out, hd.out, List.any_cons, manyB_yes (.inr ho)]; rfl), rfl⟩
     ·go_wp2
      go_round
      case rel =>
       refine ⟨k + 1, by omega, by go_num, ?_⟩
       unfold Hid; rw [hall.out, hd.out, List.any_cons, manyB_no (by omega) (by omega)]; rfl
      case measure => simp [intOf]; omega
   ·go_wp2
    go_ret
    exact ⟨ret_bool (by rw [Hm.out, hall.out, drop_end hlt]; rfl), rfl⟩
theorem checkR_many {rs : List Rul} (h : manyR rs = true) : checkR rs = 4 := by unfold checkR; rw [if_pos h]
theorem checkR_all {rs : List Rul} (h : manyR rs = false) : checkR rs = if rs.all fineR = true then 0 else 8 := by unfold checkR; rw [if_neg (by rw [h]; decide)]
theorem rCheck_calls (A : Option Addr) (c : Nat) (rs : List Rul) (w : World) (h : SlAt pRul (Old w) w A c rs) (hs : Small rs) :
  Calls Tryd.prog 49 #[.slice A rs.length c] w (IntPost (checkR rs) w) := by
 have hmx := h.lenle
 obtain ⟨H, Hs⟩ := HH2 h hs; clear h hs
 by_cases hbig : 40 < rs.length
 ·go_enter Tryd.func49, Tryd.ntmps49
  go_wp2
  go_ret
  exact ⟨ret_int (by rw [checkR_many (by unfold manyR; simp [hbig])]), Below.refl _ _⟩
 ·have hm := manyR_of hbig
  have Hm := HH1 hm; clear hm
  go_enter Tryd.func49, Tryd.ntmps49
  go_wp2
  go_loopw [12] (fun i wr => ∃ k : Nat, k <= rs.length /\ i = .int .i64 k /\ Hid (Below w.heap.size w wr) /\ w.heap.size <= wr.heap.size /\ Hid (rs.any manyB = (rs.drop k).any manyB)) (fun i _ => rs.length - (intOf i).toNat)
  case atStart => exact ⟨0, Nat.zero_le _, rfl, Below.refl _ _, Nat.le_refl _, rfl⟩
  case round =>
   obtain ⟨k, hk, rfl, hb, hsz, hall⟩ := hrel
   obtain ⟨wo, rfl⟩ : ∃ wo : World, wo = wr := ⟨_, rfl⟩
   by_cases hlt : k < rs.length
   ·obtain ⟨b, o, A1, c1, A2, c2, r, hd, rfl, hob, k0, k1, k2, k3, k4, k5, k6, _, hl1, hl2⟩ := (H.out.below hb.out).getRulAt hlt
    have hob' : b < wo.heap.size := Nat.lt_of_lt_of_le hob hsz
    by_cases hg : 4 < r.guards.length
    ·go_wp2
     go_ret
     exact ⟨ret_int (by rw [checkR_many (by rw [Hm.out, hall.out, hd.out, List.any_cons, manyB_yes (.inl hg)]; rfl)]), hb.out.alloc hsz _⟩
    ·by_cases ho : 20 < r.out.length
     ·go_wp2
      go_ret
      exact ⟨ret_int (by rw [checkR_many (by rw [Hm.out, hall.out, hd.out, List.any_cons, manyB_yes (.inr ho)]; rfl)]), hb.out.alloc hsz _⟩
     ·go_wp2
      go_roundw
      case rel =>
       refine ⟨k + 1, by omega, by go_num, hb.out.alloc hsz _, by simp; omega, ?_⟩
       unfold Hid; rw [hall.out, hd.out, List.any_cons, manyB_no (by omega) (by omega)]; rfl
      case measure => simp [intOf]; omega
   ·have hck := checkR_all (rs := rs) (by rw [Hm.out, hall.out, drop_end hlt]; rfl)
    have Hck := HH1 hck; clear hck
    clear hall
    go_wp2
    clear hlt
    go_loopw [29] (fun i wr => ∃ k : Nat, k <= rs.length /\ i = .int .i64 k /\ Hid (Below w.heap.size w wr) /\ w.heap.size <= wr.heap.size /\ Hid (rs.all fineR = (rs.drop k).all fineR)) (fun i _ => rs.length - (intOf i).toNat)
    case atStart => exact ⟨0, Nat.zero_le _, rfl, hb, hsz, rfl⟩
    case round =>
     obtain ⟨j, hj, rfl, hb2, hsz2, hall⟩ := hrel
     obtain ⟨wp, rfl⟩ : ∃ wp : World, wp = wr := ⟨_, rfl⟩
     by_cases hlt : j < rs.length
     ·obtain ⟨b, o, A1, c1, A2, c2, r, hd, rfl, hob, k0, k1, k2, k3, k4, k5, k6, hat, hl1, hl2⟩ := (H.out.below hb2.out).getRulAt hlt
      have hob' : b < wp.heap.size := Nat.lt_of_lt_of_le hob hsz2
      have hmem := mem_of_drop hd.out
      have hcall : ∀ W : World, Below wp.heap.size wp W -> Calls Tryd.prog 65 #[.agg #[.int .u8 r.name, .int .i64 r.arity, .int .u8 r.left, .int .u8 r.right, .slice A1 r.guards.length c1, .int .i64 r.weight, .slice A2 r.out.length c2]] W (BoolPost (fineR r) W) := fun W hW =>
       rFine_calls r A1 c1 A2 c2 W (hat.out.to hsz2 hW) (Hs.out.g r hmem) (Hs.out.o r hmem) (Hs.out.a r hmem)
      obtain ⟨Hcall, Hmem⟩ := HH2 hcall hmem; clear hcall hmem
      go_wp2_with fail
      refine (Hcall.out _ ((Below.refl _ _).alloc (Nat.le_refl _) _)).mono ?_
      rintro e w1 ⟨rfl, hb1⟩
      have hbw : Below w.heap.size w w1 := (hb2.out.alloc hsz2 _).trans (hb1.mono (by simp; omega))
      have Hbw := HH1 hbw; clear hbw
      clear hb1 k0 k1 k2 k3 k4 k5 k6
      cases hfm : fineR r
      ·go_wp2
       go_ret
       exact ⟨ret_int (by rw [Hck.out, if_neg (by rw [hall.out, hd.out, List.all_cons, hfm]; simp)]), Hbw.out⟩
      ·go_wp2
       go_roundw
       case rel =>
        refine ⟨j + 1, by omega, by go_num, Hbw, Hbw.out.size, ?_⟩
        unfold Hid; rw [hall.out, hd.out, List.all_cons, hfm]; rfl
       case measure => simp [intOf]; omega
     ·go_wp2
      go_ret
      exact ⟨ret_int (by rw [Hck.out, if_pos (by rw [hall.out, drop_end hlt]; rfl)]), hb2.out⟩
end
section
open Go.RowKit Go.Sort
theorem fitsF_name {r : Rul} {m : Mod} (h : (r.name != m.name) = true) : fitsF r m = false := by
 have h' : (r.name == m.name) = false := by simpa using h
 unfold fitsF; rw [h']; rfl
theorem fitsF_arity {r : Rul} {m : Mod} (h : (r.arity != (m.args.length : Int)) = true) : fitsF r m = false := by
 have h' : (r.arity == (m.args.length : Int)) = false := by simpa using h
 unfold fitsF; rw [h', Bool.and_false, Bool.false_and]
theorem fitsF_else {r : Rul} {m : Mod} (h1 : (r.name != m.name) = false) (h2 : (r.arity != (m.args.length : Int)) = false) : fitsF r m = r.guards.all (fun g => decide (0 <= worthF g m.args)) := by
 have h3 : (r.name == m.name) = true := by simpa using h1
 have h4 : (r.arity == (m.args.length : Int)) = true := by simpa using h2
 unfold fitsF; rw [h3, h4]; rfl
theorem firstFrom_no {m : Mod} {r : Rul} {rs : List Rul} {k : Nat} (h : fitsF r m = false) : firstFrom m (r :: rs) k = firstFrom m rs (k + 1) := by
 conv => lhs; unfold firstFrom
 rw [if_neg (by rw [h]; decide)]
theorem firstFrom_yes {m : Mod} {r : Rul} {rs : List Rul} {k : Nat} (h : fitsF r m = true) : firstFrom m (r :: rs) k = (k : Int) := by
 unfold firstFrom
 rw [if_pos h]
theorem guardOk {r : Rul} {m : Mod} (h : coreR r = true) (ha : (r.arity != (m.args.length : Int)) = false) (hm : m.args.all argOk = true /\ m.args.length <= 4) {g : Frm} (hg : g ∈ r.guards) : SumOk g m.args := by
 have h4 : r.arity = (m.args.length : Int) := by simpa using ha
 have := (fineR_guards h).2.2.1 g hg
 rw [h4, Int.toNat_natCast] at this
 exact sumOk this hm.1 hm.2
theorem fine_args {m : Mod} (h : fineF m = true) : m.args.all argOk = true /\ m.args.length <= 4 := by
 unfold fineF shapeOk at h
 simp only [Bool.and_eq_true, Bool.or_eq_true, beq_iff_eq, decide_eq_true_eq] at h
 refine ⟨h.1.2, ?_⟩
 rcases h.2 with h | h
 ·omega
 ·exact h.1.1
theorem find_calls (A : Option Addr) (c : Nat) (rs : List Rul) (A' : Option Addr) (c' : Nat) (m : Mod) (w : World) (h : SlAt pRul (Old w) w A c rs) (h' : SlAt (pI .i64) (Old w) w A' c' m.args) (hs : rs.all coreR = true) (hm : m.args.all argOk = true /\ m.args.length <= 4) :
  Calls Tryd.prog 89 #[.slice A rs.length c, .agg #[.int .u8 m.name, .slice A' m.args.length c']] w (IntPost (firstF rs m) w) := by
 have hmx := h.lenle
 have hmx' := h'.lenle
 obtain ⟨W0, hW0⟩ : ∃ W0, W0 = w.alloc (.cells #[.int .u8 m.name, .slice A' m.args.length c'] 49) := ⟨_, rfl⟩
 have hb0 : Below w.heap.size w W0 := by rw [hW0]; exact (Below.refl _ _).alloc (Nat.le_refl _) _
 have hz0 : w.heap.size + 1 <= W0.heap.size := by rw [hW0]; simp
 have hbl0 : Blk W0 w.heap.size 49 #[.int .u8 m.name, .slice A' m.args.length c'] := by rw [hW0]; exact Blk.new _ _ _
 obtain ⟨H, H', Hb0, Hbl0, Hm, Hs⟩ := HH6 h h' hb0 hbl0 hm hs; clear h h' hb0 hbl0 hm hs
 go_enter Tryd.func89, Tryd.ntmps89
 go_wp2
 go_step3
 go_wp2
 go_step3
 go_wp2
 rw [<- hW0]
 have HW0 := HH1 hW0; clear hW0
 go_loopg [11] rs.length (fun g i wr => ∃ k : Nat, k + g = rs.length /\ i = .int .i64 k /\ Hid (Below (w.heap.size + 1) W0 wr) /\ w.heap.size + 1 <= wr.heap.size /\ Hid (firstF rs m = firstFrom m (rs.drop k) k))
 case atStart => exact ⟨0, by omega, rfl, Below.refl _ _, hz0, rfl⟩
 case round =>
  obtain ⟨k, hkg, rfl, hb, hsz, hall⟩ := hrel
  obtain ⟨wo, rfl⟩ : ∃ wo : World, wo = wr := ⟨_, rfl⟩
  have hbwo : Below w.heap.size w wo := Hb0.out.trans (hb.out.mono (Nat.le_succ _))
  have Hbwo := HH1 hbwo; clear hbwo
  cases gk with
  | zero =>
   have hlt : ¬ k < rs.length := by omega
   have hf : firstF rs m = -1 := by rw [hall.out, drop_end hlt]; rfl
   have Hf := HH1 hf; clear hf
   go_wp2
   try rw [Exit.noGoto_ret]
   go_ret
   exact ⟨by rw [Hf.out]; rfl, Hbwo.out⟩
  | succ g =>
   have hlt : k < rs.length := by omega
   obtain ⟨b, o, A1, c1, A2, c2, r, hd, rfl, hob, k0, k1, k2, k3, k4, k5, k6, hat, hl1, hl2⟩ := (H.out.below Hbwo.out).getRulAt hlt
   have hob' : b < wo.heap.size := by have : b < w.heap.size := hob; omega
   have hwl : w.heap.size < wo.heap.size := by omega
   have hblo := Hbl0.out.same (hb.out.block _ (Nat.lt_succ_self _))
   have y0 := hblo.cell 0
   have y1 := hblo.cell 1
   have hco : coreR r = true := List.all_eq_true.1 Hs.out r (mem_of_drop hd.out)
   obtain ⟨Hblo, Hco⟩ := HH2 hblo hco; clear hblo hco
   have next : fitsF r m = false -> firstF rs m = firstFrom m (rs.drop (k + 1)) (k + 1) := fun hf => by rw [hall.out, hd.out, firstFrom_no hf]
   have Next := HH1 next; clear next
   have hbr : Below (w.heap.size + 1) W0 (wo.alloc (.cells #[.int .u8 r.name, .int .i64 r.arity, .int .u8 r.left, .int .u8 r.right, .slice A1 r.guards.length c1, .int .i64 r.weight, .slice A2 r.out.length c2] 60)) := hb.out.alloc hsz _
   have Hbr := HH1 hbr; clear hbr
   cases hn1 : (r.name != m.name)
   ·cases hn2 : (r.arity != (m.args.length : Int))
    ·have hff := fitsF_else hn1 hn2
     have hgo := fun (x : Frm) (hx : x ∈ r.guards) => guardOk Hco.out hn2 Hm.out hx
     obtain ⟨Hff, Hgo⟩ := HH2 hff hgo; clear hff hgo
     go_wp2
     obtain ⟨W1, hW1⟩ : ∃ W1, W1 = wo.alloc (.cells #[.int .u8 r.name, .int .i64 r.arity, .int .u8 r.left, .int .u8 r.right, .slice A1 r.guards.length c1, .int .i64 r.weight, .slice A2 r.out.length c2] 60) := ⟨_, rfl⟩
     have hz1 : wo.heap.size + 1 <= W1.heap.size := by rw [hW1]; simp
     have hb1 : Below wo.heap.size wo W1 := by rw [hW1]; exact (Below.refl _ _).alloc (Nat.le_refl _) _
     rw [<- hW1] at Hbr ⊢
     have hgs : SlAt pFrm (Old w) W1 A1 c1 r.guards := hat.out.sg.keep fun q hq => hb1.block q (by have : q < w.heap.size := hq; omega)
     have has : SlAt (pI .i64) (Old w) W1 A' c' m.args := ((H'.out.below Hbwo.out)).keep fun q hq => hb1.block q (by have : q < w.heap.size := hq; omega)
     have hbl1 := Hblo.out.same (hb1.block _ hwl)
     obtain ⟨HW1, Hb1, Hgs, Has, Hbl1⟩ := HH5 hW1 hb1 hgs has hbl1; clear hW1 hb1 hgs has hbl1
     clear k0 k1 k2 k3 k4 k5 k6 y0 y1 hn1 hn2
     go_loopg [32] r.guards.length (fun g2 i wr => ∃ j : Nat, j + g2 = r.guards.length /\ i = .int .i64 j /\ Hid (Below W1.heap.size W1 wr) /\ W1.heap.size <= wr.heap.size /\ Hid (fitsF r m = (r.guards.drop j).all (fun g => decide (0 <= worthF g m.args))))
     case atStart => exact ⟨0, by omega, rfl, Below.refl _ _, Nat.le_refl _, Hff⟩
     case round =>
      obtain ⟨j, hjg, rfl, hb2, hsz2, hall2⟩ := hrel
      obtain ⟨wp, rfl⟩ : ∃ wp : World, wp = wr := ⟨_, rfl⟩
      cases gk with
      | zero =>
       have hlt : ¬ j < r.guards.length := by omega
       have hf : firstF rs m = (k : Int) := by rw [hall.out, hd.out, firstFrom_yes (by rw [hall2.out, drop_end hlt]; rfl)]
       have Hf := HH1 hf; clear hf
       go_wp2
       try rw [Exit.noGoto_ret]
       go_ret
       exact ⟨by rw [Hf.out]; rfl, Hbwo.out.trans ((Hb1.out.trans (hb2.out.mono (by omega))).mono (by omega))⟩
      | succ g2 =>
       have hlt : j < r.guards.length := by omega
       obtain ⟨b3, o3, A3, c3, f, hdf, rfl, hob3, hs0, hs1, hsc, hsa, hsl⟩ := (Hgs.out.keep fun q hq => hb2.out.block q (by have : q < w.heap.size := hq; omega)).getFrm hlt
       have hob3' : b3 < wp.heap.size := by have : b3 < w.heap.size := hob3; omega
       have hwl2 : w.heap.size < wp.heap.size := by omega
       have hblp := Hbl1.out.same (hb2.out.block _ (by omega))
       have y0 := hblp.cell 0
       have y1 := hblp.cell 1
       have hok := Hgo.out f (mem_of_drop hdf.out)
       have hasp := Has.out.keep (w' := wp) fun q hq => hb2.out.block q (by have : q < w.heap.size := hq; omega)
       have hcall : ∀ W : World, Below wp.heap.size wp W -> Calls Tryd.prog 86 #[.agg #[.int .i64 f.const, .slice A3 f.coefs.length c3], .slice A' m.args.length c'] W (IntPost (worthF f m.args) W) := fun W hW =>
        worth_calls (F := Old w) A3 c3 f A' c' m.args W (hsa.out.keep fun q hq => hW.block q (by have : q < w.heap.size := hq; omega)) (hasp.keep fun q hq => hW.block q (by have : q < w.heap.size := hq; omega)) (fun q hq => by have : q < w.heap.size := hq; have := hW.size; omega) hok
       have hbd := worth_bd hok
       obtain ⟨Hcall, Hok, Hasp, Hblp⟩ := HH4 hcall hok hasp hblp; clear hcall hok hasp hblp
       go_wp2_with fail
       refine (Hcall.out _ ((Below.refl _ _).alloc (Nat.le_refl _) _)).mono ?_
       rintro e w5 ⟨rfl, hb5⟩
       have hbp5 : Below wp.heap.size wp w5 := ((Below.refl _ _).alloc (Nat.le_refl _) _).trans (hb5.mono (by simp))
       have hz5 := hbp5.size
       have Hbp5 := HH1 hbp5; clear hbp5
       clear hb5 hs0 hs1 y0 y1
       obtain ⟨v, hvv⟩ : ∃ v, worthF f m.args = v := ⟨_, rfl⟩
       have Hvv := HH1 hvv
       rw [hvv] at hbd ⊢
       clear hvv
       by_cases hv : v < 0
       ·have hnf : fitsF r m = false := by rw [hall2.out, hdf.out, List.all_cons, Hvv.out, decide_eq_false (by omega)]; rfl
        have hnx := Next.out hnf
        have Hnx := HH1 hnx; clear hnx
        clear hnf
        go_wp2
        go_roundg g
        case measure => omega
        case rel =>
         refine ⟨k + 1, by omega, by go_num, ?_, by omega, Hnx⟩
         exact Hbr.out.trans ((hb2.out.trans (Hbp5.out.mono hsz2)).mono (by omega))
       ·go_wp2
        go_roundg g2
        case measure => omega
        case rel =>
         refine ⟨j + 1, by omega, by go_num, hb2.out.trans (Hbp5.out.mono hsz2), by omega, ?_⟩
         unfold Hid; rw [hall2.out, hdf.out, List.all_cons, Hvv.out, decide_eq_true (by omega)]; rfl
    ·have hnx := Next.out (fitsF_arity hn2)
     have Hnx := HH1 hnx; clear hnx
     go_wp2
     go_roundg g
     case measure => omega
     case rel => exact ⟨k + 1, by omega, by go_num, Hbr, by simp; omega, Hnx⟩
   ·have hnx := Next.out (fitsF_name hn1)
    have Hnx := HH1 hnx; clear hnx
    go_wp2
    go_roundg g
    case measure => omega
    case rel => exact ⟨k + 1, by omega, by go_num, Hbr, by simp; omega, Hnx⟩
end
section
open Go.RowKit
def outF (args : List Int) (s : Shp) : Mod × Bool := (⟨s.name, s.args.map fun f => worthF f args⟩, s.args.all fun f => argOk (worthF f args))
def outsF (rs : List Rul) (m : Mod) : List (Mod × Bool) :=
 match rs[(firstF rs m).toNat]? with
 | some r => if firstF rs m < 0 then [(m, true)] else r.out.map (outF m.args)
 | none => [(m, true)]
def succF (rs : List Rul) (ms : List Mod) : List (Mod × Bool) := ms.flatMap (outsF rs)
theorem succF_snoc {rs : List Rul} {ms : List Mod} {k : Nat} {m : Mod} {rest : List Mod} (h : ms.drop k = m :: rest) : succF rs (ms.take (k + 1)) = succF rs (ms.take k) ++ outsF rs m := by
 have hx : ms[k]? = some m := by
  have := congrArg (fun l => l[0]?) h
  simpa using this
 unfold succF
 rw [List.take_add_one, hx]
 simp
theorem succF_prefix {rs : List Rul} {ms : List Mod} (i : Nat) : succF rs (ms.take i) <+: succF rs ms :=
 ⟨succF rs (ms.drop i), by unfold succF; rw [<- List.flatMap_append, List.take_append_drop]⟩
def stepF (rs : List Rul) (ms : List Mod) : List Mod × Int :=
 if (succF rs ms).all (·.2) = true then (if 2000 < (succF rs ms).length then ([], 4) else ((succF rs ms).map (·.1), 0)) else ([], 16)
def openR (rs : List Rul) (ms : List Mod) : Int := if checkR rs = 0 then checkF ms else checkR rs
def iterR (rs : List Rul) : Nat -> List Mod -> List Mod × Int
 | 0, ms => (ms, 0)
 | n + 1, ms => if (stepF rs ms).2 = 0 then iterR rs n (stepF rs ms).1 else ([], (stepF rs ms).2)
def rRunF (rs : List Rul) (ms : List Mod) (n : Int) : List Mod × Int :=
 if openR rs ms = 0 then (if n < 0 ∨ 30 < n then ([], 2) else iterR rs n.toNat ms) else ([], openR rs ms)
theorem stepF_ok {rs : List Rul} {ms : List Mod} (h : (stepF rs ms).2 = 0) : (succF rs ms).all (·.2) = true /\ (succF rs ms).length <= 2000 /\ (stepF rs ms).1 = (succF rs ms).map (·.1) := by
 unfold stepF at h ⊢
 by_cases h1 : (succF rs ms).all (·.2) = true
 ·rw [if_pos h1] at h ⊢
  by_cases h2 : 2000 < (succF rs ms).length
  ·rw [if_pos h2] at h; cases h
  ·rw [if_neg h2]; exact ⟨h1, by omega, rfl⟩
 ·rw [if_neg h1] at h; cases h
theorem scan_app : ∀ (a b : List Mod) (n : Nat), scan n (a ++ b) = (scan n a).bind (fun k => scan k b)
 | [], b, n => rfl
 | m :: a, b, n => by
  rw [List.cons_append]
  have e1 : scan n (m :: (a ++ b)) = if m.name = 91 then scan (n + 1) (a ++ b) else if m.name = 93 then (if n = 0 then none else scan (n - 1) (a ++ b)) else scan n (a ++ b) := rfl
  have e2 : scan n (m :: a) = if m.name = 91 then scan (n + 1) a else if m.name = 93 then (if n = 0 then none else scan (n - 1) a) else scan n a := rfl
  rw [e1, e2]
  split
  ·exact scan_app a b _
  ·split
   ·split
    ·rfl
    ·exact scan_app a b _
   ·exact scan_app a b _
theorem checkF_iff {w : List Mod} : checkF w = 0 ↔ w.length <= 2000 /\ w.all fineF = true /\ scan 0 w = some 0 := by
 unfold checkF
 by_cases h1 : 2000 < w.length
 ·rw [if_pos h1]; constructor
  ·intro h; cases h
  ·rintro ⟨h, _⟩; omega
 ·rw [if_neg h1]
  cases h2 : w.all fineF
  ·simp
  ·rw [if_neg (by decide)]
   cases h3 : scan 0 w with
   | none => simp
   | some n =>
    cases n with
    | zero => simp; omega
    | succ n => simp
theorem scan_up : ∀ (a : List Mod) (n d k : Nat), scan n a = some k -> scan (n + d) a = some (k + d)
 | [], n, d, k, h => by unfold scan at h ⊢; cases h; rfl
 | m :: a, n, d, k, h => by
  unfold scan at h ⊢
  by_cases h1 : m.name = 91
  ·rw [if_pos h1] at h ⊢
   have := scan_up a (n + 1) d k h
   rwa [show n + 1 + d = n + d + 1 from by omega] at this
  ·rw [if_neg h1] at h ⊢
   by_cases h2 : m.name = 93
   ·rw [if_pos h2] at h ⊢
    by_cases h3 : n = 0
    ·rw [if_pos h3] at h; cases h
    ·rw [if_neg h3] at h
     rw [if_neg (by omega)]
     have := scan_up a (n - 1) d k h
     rwa [show n - 1 + d = n + d - 1 from by omega] at this
   ·rw [if_neg h2] at h ⊢; exact scan_up a n d k h
theorem scan_names : ∀ (a b : List Mod), a.map Mod.name = b.map Mod.name -> ∀ n, scan n a = scan n b
 | [], [], _, n => rfl
 | [], _ :: _, h, _ => by simp at h
 | _ :: _, [], h, _ => by simp at h
 | x :: a, y :: b, h, n => by
  simp only [List.map_cons, List.cons.injEq] at h
  unfold scan
  rw [h.1]
  have ih := scan_names a b h.2
  repeat' split
  all_goals first | rfl | exact ih _
theorem firstF_fit {m : Mod} : ∀ {rs : List Rul} {k j : Nat}, firstFrom m rs k = (j : Int) -> ∃ r, rs[j - k]? = some r /\ fitsF r m = true /\ k <= j
 | [], k, j, h => by unfold firstFrom at h; omega
 | r :: rs, k, j, h => by
  unfold firstFrom at h
  split at h
  ·rename_i hf
   have : k = j := by omega
   subst this
   exact ⟨r, by simp, hf, Nat.le_refl _⟩
  ·obtain ⟨r', h1, h2, h3⟩ := firstF_fit h
   refine ⟨r', ?_, h2, by omega⟩
   rw [show j - k = (j - (k + 1)) + 1 from by omega, List.getElem?_cons_succ]; exact h1
theorem outsF_cases (rs : List Rul) (m : Mod) : (firstF rs m = -1 /\ outsF rs m = [(m, true)]) ∨ ∃ (j : Nat) (r : Rul), firstF rs m = (j : Int) /\ rs[j]? = some r /\ fitsF r m = true /\ outsF rs m = r.out.map (outF m.args) := by
 rcases firstFrom_none (m := m) (rs := rs) (k := 0) with h | ⟨j, h, _, _⟩
 ·left
  have h' : firstF rs m = -1 := h
  refine ⟨h', ?_⟩
  unfold outsF; rw [h']; split <;> rfl
 ·right
  obtain ⟨r, h1, h2, _⟩ := firstF_fit h
  have h' : firstF rs m = (j : Int) := h
  refine ⟨j, r, h', by simpa using h1, h2, ?_⟩
  unfold outsF
  rw [h', Int.toNat_natCast, show rs[j]? = some r from by simpa using h1]
  simp only []
  rw [if_neg (by omega)]
theorem core_out {r : Rul} (h : coreR r = true) : checkF (r.out.map fun s => ⟨s.name, List.replicate s.args.length 0⟩) = 0 /\ r.name ≠ 91 /\ r.name ≠ 93 := by
 unfold coreR at h
 simp only [Bool.and_eq_true, decide_eq_true_eq, beq_iff_eq, bne_iff_ne, ne_eq] at h
 exact ⟨h.2, h.1.1.1.1.1.1.2, h.1.1.1.1.1.2⟩
theorem fits_name {r : Rul} {m : Mod} (h : fitsF r m = true) : r.name = m.name := by
 unfold fitsF at h
 simp only [Bool.and_eq_true, beq_iff_eq] at h
 exact h.1.1
theorem outF_fine {args : List Int} {s : Shp} (h : fineF ⟨s.name, List.replicate s.args.length 0⟩ = true) (hok : (outF args s).2 = true) : fineF (outF args s).1 = true := by
 unfold fineF shapeOk at h ⊢
 simp only [Bool.and_eq_true, outF, List.length_map, List.length_replicate] at h ⊢
 refine ⟨⟨h.1.1, ?_⟩, h.2⟩
 rw [List.all_map]; exact hok
theorem outs_ok {rs : List Rul} {m : Mod} (hr : rs.all coreR = true) (hm : fineF m = true) (hok : (outsF rs m).all (·.2) = true) : ((outsF rs m).map (·.1)).all fineF = true /\ ∀ n k, scan n [m] = some k -> scan n ((outsF rs m).map (·.1)) = some k := by
 rcases outsF_cases rs m with ⟨_, h⟩ | ⟨j, r, _, hj, hf, h⟩
 ·rw [h]; exact ⟨by simpa using hm, fun n k hk => hk⟩
 ·rw [h] at hok ⊢
  have hc := core_out (List.all_eq_true.1 hr r (List.mem_of_getElem? hj))
  obtain ⟨_, h2, h3⟩ := checkF_iff.1 hc.1
  have hn : m.name ≠ 91 /\ m.name ≠ 93 := by rw [<- fits_name hf]; exact hc.2
  have e : (r.out.map (outF m.args)).map (·.1) = r.out.map fun s => (outF m.args s).1 := by rw [List.map_map]; rfl
  rw [e]
  refine ⟨?_, fun n k hk => ?_⟩
  ·rw [List.all_map] at h2 hok ⊢
   exact List.all_eq_true.2 fun s hs => outF_fine (List.all_eq_true.1 h2 s hs) (List.all_eq_true.1 hok s hs)
  ·have hk' : n = k := by
    unfold scan at hk
    rw [if_neg hn.1, if_neg hn.2] at hk
    unfold scan at hk
    exact Option.some.inj hk
   subst hk'
   have h4 : scan 0 (r.out.map fun s => (outF m.args s).1) = some 0 := by
    rw [<- h3]
    exact scan_names _ _ (by rw [List.map_map, List.map_map]; rfl) 0
   have := scan_up _ 0 n 0 h4
   simpa using this
theorem succ_ok {rs : List Rul} (hr : rs.all coreR = true) : ∀ (ms : List Mod), ms.all fineF = true -> (succF rs ms).all (·.2) = true ->
  ((succF rs ms).map (·.1)).all fineF = true /\ ∀ n k, scan n ms = some k -> scan n ((succF rs ms).map (·.1)) = some k
 | [], _, _ => ⟨rfl, fun n k h => h⟩
 | m :: ms, hm, hok => by
  have e : succF rs (m :: ms) = outsF rs m ++ succF rs ms := rfl
  rw [e] at hok ⊢
  rw [List.all_append, Bool.and_eq_true] at hok
  rw [List.all_cons, Bool.and_eq_true] at hm
  have h1 := outs_ok hr hm.1 hok.1
  have h2 := succ_ok hr ms hm.2 hok.2
  rw [List.map_append, List.all_append]
  refine ⟨by rw [h1.1, h2.1]; rfl, fun n k h => ?_⟩
  have h3 := scan_app [m] ms n
  rw [List.singleton_append, h] at h3
  cases h4 : scan n [m] with
  | none => rw [h4] at h3; cases h3
  | some j =>
   rw [h4] at h3
   rw [scan_app, h1.2 n j h4]
   exact h2.2 j k h3.symm
theorem step_valid {rs : List Rul} {ms : List Mod} (hr : rs.all coreR = true) (hc : checkF ms = 0) (h : (stepF rs ms).2 = 0) : checkF (stepF rs ms).1 = 0 := by
 obtain ⟨h1, h2, h3⟩ := stepF_ok h
 obtain ⟨_, h4, h5⟩ := checkF_iff.1 hc
 have h6 := succ_ok hr ms h4 h1
 rw [h3]
 exact checkF_iff.2 ⟨by simpa using h2, h6.1, h6.2 0 0 h5⟩
theorem checkF_fine {ms : List Mod} (h : checkF ms = 0) : ∀ m ∈ ms, fineF m = true := List.all_eq_true.1 (checkF_iff.1 h).2.1
theorem checkF_le {ms : List Mod} (h : checkF ms = 0) : ms.length <= 2000 := (checkF_iff.1 h).1
def madeOk (r : Rul) (m : Mod) : Bool := r.out.all fun s => (outF m.args s).2
def madeL (r : Rul) (m : Mod) : List Mod := r.out.map fun s => (outF m.args s).1
theorem made_succ {rs : List Rul} {m : Mod} {j : Nat} {r : Rul} (h : firstF rs m = (j : Int)) (hj : rs[j]? = some r) : (outsF rs m).all (·.2) = madeOk r m /\ (outsF rs m).map (·.1) = madeL r m := by
 have e : outsF rs m = r.out.map (outF m.args) := by
  unfold outsF
  rw [h, Int.toNat_natCast, hj]
  simp only []
  rw [if_neg (by omega)]
 rw [e]
 exact ⟨by rw [List.all_map]; rfl, by rw [List.map_map]; rfl⟩
end
section
open Go.RowKit Go.Sort
section
variable {α : Type} {E : Rp α} {w : World} {e : TypeId} {base : Nat} {G : Nat -> Prop}
theorem CellsAre.setZ {F : Nat -> Prop} {x x' : α} {j : Nat} {u : Value} (hj : j < E.n) (hR : ∀ cs, E.R F w cs x -> E.R F w (cs.set j u) x') : ∀ {xs : List α} {cells : List Value} {i : Nat}, CellsAre E F w cells xs -> xs[i]? = some x -> CellsAre E F w (cells.set (i * E.n + j) u) (xs.set i x')
 | [], _, i, _, h => by simp at h
 | y :: ys, cells, 0, ⟨cs, rest, h1, h2, h3⟩, h => by
  simp only [List.getElem?_cons_zero, Option.some.injEq] at h
  subst h
  rw [Nat.zero_mul, Nat.zero_add, List.set_cons_zero]
  refine ⟨cs.set j u, rest, ?_, hR cs h2, h3⟩
  rw [h1, List.set_append_left _ _ (by rw [E.len h2]; exact hj)]
 | y :: ys, cells, i + 1, ⟨cs, rest, h1, h2, h3⟩, h => by
  simp only [List.getElem?_cons_succ] at h
  rw [List.set_cons_succ]
  refine ⟨cs, rest.set (i * E.n + j) u, ?_, h2, CellsAre.setZ hj hR h3 h⟩
  rw [h1, List.set_append_right _ _ (by rw [E.len h2, Nat.add_mul]; omega), E.len h2]
  congr 2
  rw [Nat.add_mul]; omega
theorem Own.setZ {g : Nat} {n c : Nat} {xs : List α} (h : Own E e base G w (.slice (some ⟨g, 0, none⟩) n c) xs) {i j : Nat} {x x' : α} {u : Value} (hx : xs[i]? = some x) (hj : j < E.n) (hR : ∀ F w cs, E.R F w cs x -> E.R F w (cs.set j u) x') :
  Own E e base G (w.setCell ⟨g, i * E.n + j, none⟩ u) (.slice (some ⟨g, 0, none⟩) n c) (xs.set i x') := by
 obtain ⟨cells, ⟨h1, h2⟩, h3⟩ := h
 have h3' := h3
 rcases h2 with ⟨hv', h0⟩ | ⟨g', cap, cur, hv', hb, hg, hnc, hcm, hsz, htake⟩
 ·cases hv'
 ·injection hv' with e1 e2 e3
  injection e1 with e1
  injection e1 with e1 _ _
  subst e1 e2 e3
  refine ⟨cells.set (i * E.n + j) u, ⟨by rw [List.length_set, List.length_set]; exact h1, .inr ⟨g, c, cur.setIfInBounds (i * E.n + j) u, by rw [List.length_set], hb, Blk.set (t := e) (cs := cur) hg (i * E.n + j) _, by simpa using hnc, hcm, by simpa using hsz, ?_⟩⟩, ?_⟩
  ·rw [Array.toList_setIfInBounds, <- htake, List.take_set]
   simp
  ·refine (CellsAre.keep (fun k hk => Below.heap_setCell _ _ _ _ fun he => ?_) (CellsAre.setZ hj (fun cs => hR _ _ cs) h3' hx)).wide fun k hk => ⟨hk.1, by simpa [World.setCell] using hk.2.1, hk.2.2⟩
   subst he
   exact hk.2.2 rfl
theorem Own.atZ {A : Option Addr} {n c : Nat} {xs : List α} (h : Own E e base G w (.slice A n c) xs) {i : Nat} {x : α} (hx : xs[i]? = some x) (hn : 0 < E.n) :
  ∃ g cs F, A = some ⟨g, 0, none⟩ /\ base <= g /\ g < w.heap.size /\ E.R F w cs x /\ (∀ j u, cs[j]? = some u -> w.cell? ⟨g, i * E.n + j, none⟩ = some u) /\ (∀ k, w.frozen? ⟨g, k, none⟩ = false) /\ n <= c := by
 obtain ⟨cells, ⟨h1, h2⟩, h3⟩ := h
 rcases h2 with ⟨hv, h0⟩ | ⟨g, cap, cur, hv, hb, hg, hnc, hcm, hsz, htake⟩
 ·rw [List.eq_nil_of_length_eq_zero h0] at hx; simp at hx
 ·cases hv
  obtain ⟨cs, h4, h5⟩ := h3.get hx
  refine ⟨g, cs, _, rfl, hb, (Array.getElem?_eq_some_iff.1 hg).1, h4, fun j u hu => ?_, fun k => Blk.free (t := e) (cs := cur) hg k, hnc⟩
  have h6 := h5 j u hu
  rw [<- htake, List.getElem?_take] at h6
  split at h6
  ·rw [Blk.cell (t := e) (cs := cur) hg]; simpa using h6
  ·cases h6
end
def zeroW (r : Rul) : Rul := { r with weight := 0 }
theorem pRul_set5 {r : Rul} : ∀ F w cs, pRul.R F w cs r -> pRul.R F w (cs.set 5 (.int .i64 0)) (zeroW r) := by
 rintro F w cs ⟨A, c, A', c', rfl, ⟨f1, f2, f3, f4, f5⟩, h1, h2⟩
 exact ⟨A, c, A', c', rfl, ⟨f1, f2, f3, f4, fits_i64 (n := 0) (by decide)⟩, h1, h2⟩
def halfZ (rs : List Rul) (k : Nat) : List Rul := (rs.take k).map zeroW ++ rs.drop k
theorem halfZ_get {rs : List Rul} {k : Nat} {r : Rul} (h : rs[k]? = some r) : (halfZ rs k)[k]? = some r := by
 have hk : k < rs.length := (List.getElem?_eq_some_iff.1 h).1
 unfold halfZ
 rw [List.getElem?_append_right (by rw [List.length_map, List.length_take]; omega), List.length_map, List.length_take, Nat.min_eq_left (Nat.le_of_lt hk), Nat.sub_self, List.getElem?_drop, Nat.add_zero, h]
theorem halfZ_next {rs : List Rul} {k : Nat} {r : Rul} (h : rs[k]? = some r) : (halfZ rs k).set k (zeroW r) = halfZ rs (k + 1) := by
 have hk : k < rs.length := (List.getElem?_eq_some_iff.1 h).1
 have hd := drop_cons h
 have hl : ((rs.take k).map zeroW).length = k := by rw [List.length_map, List.length_take]; omega
 unfold halfZ
 rw [List.set_append_right _ _ (by omega), hl, Nat.sub_self, hd, List.set_cons_zero, take_of_drop hd, List.map_append, List.append_assoc]
 rfl
theorem halfZ_len (rs : List Rul) (k : Nat) : (halfZ rs k).length = rs.length := by
 unfold halfZ; simp; omega
theorem halfZ_all (rs : List Rul) : halfZ rs rs.length = rs.map zeroW := by unfold halfZ; simp
def okW (r : Rul) : Bool := decide (1 <= r.weight) && decide (r.weight <= 1000000)
def checkC (rs : List Rul) : Int := if manyR rs = true then 4 else if rs.all (fun r => coreR r && (r.left == 0) && (r.right == 0) && okW r) = true then 0 else 8
theorem manyR_zero (rs : List Rul) : manyR (rs.map zeroW) = manyR rs := by
 unfold manyR
 rw [List.length_map, List.any_map]
 rfl
theorem fineR_zero (r : Rul) : fineR (zeroW r) = (coreR r && (r.left == 0) && (r.right == 0)) := by
 unfold fineR bareR
 show (coreR r && (r.left == 0 && r.right == 0 && (0 : Int) == 0)) = _
 simp [Bool.and_assoc]
theorem checkR_zero (rs : List Rul) : checkR (rs.map zeroW) = if manyR rs = true then 4 else if rs.all (fun r => coreR r && (r.left == 0) && (r.right == 0)) = true then 0 else 8 := by
 unfold checkR
 rw [manyR_zero, List.all_map]
 congr 2
 rw [show (fineR ∘ zeroW) = fun r => coreR r && (r.left == 0) && (r.right == 0) from funext fineR_zero]
theorem checkC_eq (rs : List Rul) : checkC rs = if checkR (rs.map zeroW) = 0 then (if rs.all okW = true then 0 else 8) else checkR (rs.map zeroW) := by
 rw [checkR_zero]
 unfold checkC
 have hall : rs.all (fun r => coreR r && (r.left == 0) && (r.right == 0) && okW r) = (rs.all (fun r => coreR r && (r.left == 0) && (r.right == 0)) && rs.all okW) := by
  induction rs with
  | nil => rfl
  | cons a t ih => simp only [List.all_cons, ih]; cases coreR a <;> cases (a.left == 0) <;> cases (a.right == 0) <;> cases okW a <;> simp
 rw [hall]
 cases manyR rs
 ·cases rs.all (fun r => coreR r && (r.left == 0) && (r.right == 0))
  ·simp
  ·cases rs.all okW <;> simp
 ·simp
theorem checkC_calls (A : Option Addr) (c : Nat) (rs : List Rul) (w : World) (h : SlAt pRul (Old w) w A c rs) (hs : Small rs) :
  Calls Tryd.prog 21 #[.slice A rs.length c] w (IntPost (checkC rs) w) := by
 have hmx := h.lenle
 have hl50 := hs.l
 have hem : Own pRul 60 w.heap.size (Old w) w (.slice none 0 0) ([] : List Rul) := Own.nil
 have hF1 : ∀ q, Old w q -> Old w q /\ q < w.heap.size /\ some q ≠ (Value.slice none 0 0).ownBlock := fun q hq => ⟨hq, hq, fun he => by cases he⟩
 have hn1 : (([] : List Rul) ++ rs).length = rs.length := rfl
 have hr1 : Room rs.length := room_of (by omega)
 have hba : w.heap.size <= w.heap.size := Nat.le_refl _
 obtain ⟨H, Hs, Hem, HF1, Hn1, Hr1, Hba⟩ := HH7 h hs hem hF1 hn1 hr1 hba; clear h hs hem hF1 hn1 hr1 hba
 go_enter Tryd.func21, Tryd.ntmps21
 go_wp2_with (at_builtin; (refine wpList_catG (E := pRul) (xs := []) (v := .slice none 0 0) (base := w.heap.size) (G := Old w) 22 60 (.agg #[.int .u8 0, .int .i64 0, .int .u8 0, .int .u8 0, .slice none 0 0, .int .i64 0, .slice none 0 0]) 80 _ (.tmp 8) rfl rfl Tryd.underlying22 (by kernel_rfl) rfl (by decide) rfl Hem.out A c rs rfl (Old w) H.out HF1.out rs.length Hn1.out Hr1.out (by decide) Hba.out ?_); intro A2 c2 w2 hown2 hg2)
 rw [List.nil_append] at hown2
 have hb2 : Below w.heap.size w w2 := hg2.out.bel
 have z2 : w.heap.size <= w2.heap.size := hb2.size
 have hst : Own pRul 60 w.heap.size (Old w) w2 (.slice A2 rs.length c2) (halfZ rs 0) := hown2.out
 obtain ⟨Hst, Hb2⟩ := HH2 hst hb2; clear hst hb2
 clear hg2 hown2 Hem HF1
 go_loopw [12, 4] (fun i v wr => ∃ k : Nat, k <= rs.length /\ i = .int .i64 k /\ ∃ b : Bool, v = .bool b /\ Hid (b = (rs.take k).all okW) /\ w.heap.size <= wr.heap.size /\ Hid (Below w.heap.size w wr) /\ Hid (Own pRul 60 w.heap.size (Old w) wr (.slice A2 rs.length c2) (halfZ rs k))) (fun i _ _ => rs.length - (intOf i).toNat)
 case atStart => exact ⟨0, Nat.zero_le _, rfl, true, rfl, rfl, z2, Hb2, Hst⟩
 case round =>
  obtain ⟨k, hk, rfl, b, rfl, hbk, hsz, hb, hown⟩ := hrel
  obtain ⟨wo, rfl⟩ : ∃ wo : World, wo = wr := ⟨_, rfl⟩
  by_cases hlt : k < rs.length
  case pos =>
   have hxk : rs[k]? = some rs[k] := List.getElem?_eq_getElem hlt
   obtain ⟨r, hr⟩ : ∃ r, rs[k] = r := ⟨_, rfl⟩
   rw [hr] at hxk
   have htk : (rs.take (k + 1)).all okW = ((rs.take k).all okW && okW r) := by
    rw [take_of_drop (drop_cons hxk), List.all_append]; simp
   obtain ⟨g, cs, F, rfl, hg1, hg2, hRr, hcell, hfz, hnc⟩ := hown.out.atZ (halfZ_get hxk) (by decide)
   have hRr' := hRr
   obtain ⟨Ag, cg, Ao, co, hcs, ⟨_, _, _, _, hf5⟩, hgl, hol⟩ := hRr'
   have k0 : wo.cell? ⟨g, k * 7, none⟩ = some (.int .u8 r.name) := hcell 0 _ (by rw [hcs]; rfl)
   have k1 : wo.cell? ⟨g, k * 7 + 1, none⟩ = some (.int .i64 r.arity) := hcell 1 _ (by rw [hcs]; rfl)
   have k2 : wo.cell? ⟨g, k * 7 + 2, none⟩ = some (.int .u8 r.left) := hcell 2 _ (by rw [hcs]; rfl)
   have k3 : wo.cell? ⟨g, k * 7 + 3, none⟩ = some (.int .u8 r.right) := hcell 3 _ (by rw [hcs]; rfl)
   have k4 : wo.cell? ⟨g, k * 7 + 4, none⟩ = some (.slice Ag r.guards.length cg) := hcell 4 _ (by rw [hcs]; rfl)
   have k5 : wo.cell? ⟨g, k * 7 + 5, none⟩ = some (.int .i64 r.weight) := hcell 5 _ (by rw [hcs]; rfl)
   have k6 : wo.cell? ⟨g, k * 7 + 6, none⟩ = some (.slice Ao r.out.length co) := hcell 6 _ (by rw [hcs]; rfl)
   have hlg := hgl.lenle.1
   have hlo := hol.lenle.1
   obtain ⟨W1, hW1⟩ : ∃ W1, W1 = wo.alloc (.cells #[.int .u8 r.name, .int .i64 r.arity, .int .u8 r.left, .int .u8 r.right, .slice Ag r.guards.length cg, .int .i64 r.weight, .slice Ao r.out.length co] 60) := ⟨_, rfl⟩
   have hb1 : Below wo.heap.size wo W1 := by rw [hW1]; exact (Below.refl _ _).alloc (Nat.le_refl _) _
   have f5 : (wo.alloc (.cells #[.int .u8 r.name, .int .i64 r.arity, .int .u8 r.left, .int .u8 r.right, .slice Ag r.guards.length cg, .int .i64 r.weight, .slice Ao r.out.length co] 60)).frozen? ⟨g, k * 7 + 5, none⟩ = false := by
    rw [<- hW1]
    have e := hb1.block g hg2
    have := hfz (k * 7 + 5)
    unfold World.frozen? at this ⊢
    rw [e]; exact this
   have o0 := hown.out.setZ (i := k) (j := 5) (u := .int .i64 0) (halfZ_get hxk) (by decide) (fun F w cs hh => pRul_set5 F w cs hh)
   rw [halfZ_next hxk] at o0
   have o1 := o0.alloc (.cells #[.int .u8 r.name, .int .i64 r.arity, .int .u8 r.left, .int .u8 r.right, .slice Ag r.guards.length cg, .int .i64 r.weight, .slice Ao r.out.length co] 60)
   have hb3 : Below w.heap.size w ((wo.setCell ⟨g, k * 7 + 5, none⟩ (.int .i64 0)).alloc (.cells #[.int .u8 r.name, .int .i64 r.arity, .int .u8 r.left, .int .u8 r.right, .slice Ag r.guards.length cg, .int .i64 r.weight, .slice Ao r.out.length co] 60)) := (hb.out.setCell (by show w.heap.size <= g; exact hg1) _).alloc (by simp [World.setCell]; exact hsz) _
   have hz3 := hb3.size
   have k0' : (0 : Int) <= (k : Int) := Int.natCast_nonneg _
   have k1' : (k : Int) < (rs.length : Int) := by omega
   have hf5' := hf5.i64
   obtain ⟨Hxk, HRr, Hcs, O0, O1, Hb3, Hown, Hr, Hcell, Hfz, Htk, Hb1⟩ := HH12 hxk hRr hcs o0 o1 hb3 hown hr hcell hfz htk hb1; clear hxk hRr hcs o0 o1 hb3 hown hr hcell hfz htk hb1
   obtain ⟨Hgl, Hol, Hf5⟩ := HH3 hgl hol hf5; clear hgl hol hf5
   clear hW1
   cases b
   ·go_wp2
    go_roundw
    case rel => exact ⟨k + 1, hlt, by go_num, false, rfl, by unfold Hid; rw [Htk.out, <- hbk.out]; rfl, hz3, Hb3, O1⟩
    case measure => simp [intOf]; omega
   ·by_cases hw1 : r.weight < 1
    ·have hno : okW r = false := by unfold okW; simp; omega
     have Hno := HH1 hno; clear hno
     go_wp2
     go_roundw
     case rel => exact ⟨k + 1, hlt, by go_num, false, by first | rfl | (simp; omega), by unfold Hid; rw [Htk.out, Hno.out]; simp, hz3, Hb3, O1⟩
     case measure => simp [intOf]; omega
    ·by_cases hw2 : 1000000 < r.weight
     ·have hno : okW r = false := by unfold okW; simp; omega
      have Hno := HH1 hno; clear hno
      go_wp2
      go_roundw
      case rel => exact ⟨k + 1, hlt, by go_num, false, by first | rfl | (simp; omega), by unfold Hid; rw [Htk.out, Hno.out]; simp, hz3, Hb3, O1⟩
      case measure => simp [intOf]; omega
     ·have hyes : okW r = true := by unfold okW; simp; omega
      have Hyes := HH1 hyes; clear hyes
      go_wp2
      go_roundw
      case rel => exact ⟨k + 1, hlt, by go_num, true, by first | rfl | (simp; omega), by unfold Hid; rw [Htk.out, Hyes.out, <- hbk.out]; rfl, hz3, Hb3, O1⟩
      case measure => simp [intOf]; omega
  case neg =>
   obtain rfl : k = rs.length := by omega
   have ho := hown.out
   rw [halfZ_all] at ho
   have hln : (rs.map zeroW).length = rs.length := List.length_map _
   obtain ⟨_, hsl⟩ := ho.sl'
   have S3 := HH1 ((hsl.wide (F' := Old wo) fun q hq => hq.2))
   have hsb : Small (rs.map zeroW) := ⟨by rw [hln]; exact Hs.out.l, fun x hx => by obtain ⟨y, hy, rfl⟩ := List.mem_map.1 hx; exact Hs.out.g y hy, fun x hx => by obtain ⟨y, hy, rfl⟩ := List.mem_map.1 hx; exact Hs.out.o y hy, fun x hx => by obtain ⟨y, hy, rfl⟩ := List.mem_map.1 hx; exact Hs.out.a y hy⟩
   have c1 := rCheck_calls A2 c2 (rs.map zeroW) wo S3.out hsb
   rw [hln] at c1
   have hq := checkC_eq rs
   have hbk' := hbk.out
   rw [List.take_length] at hbk'
   rw [<- hbk'] at hq
   generalize checkR (rs.map zeroW) = y at c1 hq
   obtain ⟨C1, Hsb, Ho, Hsl, Hln⟩ := HH5 c1 hsb ho hsl hln; clear c1 hsb ho hsl hln
   clear hown hbk hbk'
   by_cases hy : y = 0
   ·subst hy
    rw [if_pos rfl] at hq
    cases b
    ·have hq2 : checkC rs = 8 := hq
     have Hq2 := HH1 hq2; clear hq2
     clear hq
     go_wp2_with fail
     refine C1.out.mono ?_
     rintro e w4 ⟨rfl, b4⟩
     have hbz := hb.out.trans (b4.mono hsz)
     have Hbz := HH1 hbz; clear hbz
     clear b4
     go_wp2
     go_ret
     exact ⟨ret_int (by rw [Hq2.out]), Hbz.out⟩
    ·have hq2 : checkC rs = 0 := hq
     have Hq2 := HH1 hq2; clear hq2
     clear hq
     go_wp2_with fail
     refine C1.out.mono ?_
     rintro e w4 ⟨rfl, b4⟩
     have hbz := hb.out.trans (b4.mono hsz)
     have Hbz := HH1 hbz; clear hbz
     clear b4
     go_wp2
     go_ret
     exact ⟨ret_int (by rw [Hq2.out]), Hbz.out⟩
   ·rw [if_neg hy] at hq
    have e0 : (y != 0) = true := by simp [hy]
    obtain ⟨Hq, Hy⟩ := HH2 hq hy; clear hq hy
    go_wp2_with fail
    refine C1.out.mono ?_
    rintro e w4 ⟨rfl, b4⟩
    have hbz := hb.out.trans (b4.mono hsz)
    have Hbz := HH1 hbz; clear hbz
    clear b4
    go_wp2
    go_ret
    exact ⟨ret_int (by rw [Hq.out]), Hbz.out⟩
end
section
open Go.RowKit Go.Sort
def fineC (r : Rul) : Bool := coreR r && (r.left == 0) && (r.right == 0) && okW r
theorem checkC_many {rs : List Rul} (h : manyR rs = true) : checkC rs = 4 := by unfold checkC; rw [if_pos h]
theorem checkC_all {rs : List Rul} (h : manyR rs = false) : checkC rs = if rs.all fineC = true then 0 else 8 := by unfold checkC; rw [if_neg (by rw [h]; decide)]; rfl
theorem refCheckC_calls (A : Option Addr) (c : Nat) (rs : List Rul) (w : World) (h : SlAt pRul (Old w) w A c rs) (hs : Small rs) :
  Calls Tryd.prog 22 #[.slice A rs.length c] w (IntPost (checkC rs) w) := by
 have hmx := h.lenle
 obtain ⟨H, Hs⟩ := HH2 h hs; clear h hs
 cases hmm : manyR rs
 ·have hck := checkC_all hmm
  obtain ⟨Hck, Hmm⟩ := HH2 hck hmm; clear hck hmm
  go_enter Tryd.func22, Tryd.ntmps22
  go_wp2_with fail
  refine (many_calls A c rs _ H.out).mono ?_
  rintro e w' ⟨rfl, rfl⟩
  rw [Hmm.out]
  go_wp2
  go_loopw [3] (fun i wr => ∃ k : Nat, k <= rs.length /\ i = .int .i64 k /\ Hid (Below w.heap.size w wr) /\ w.heap.size <= wr.heap.size /\ Hid (rs.all fineC = (rs.drop k).all fineC)) (fun i _ => rs.length - (intOf i).toNat)
  case atStart => exact ⟨0, Nat.zero_le _, rfl, Below.refl _ _, Nat.le_refl _, rfl⟩
  case round =>
   obtain ⟨j, hj, rfl, hb2, hsz2, hall⟩ := hrel
   obtain ⟨wp, rfl⟩ : ∃ wp : World, wp = wr := ⟨_, rfl⟩
   by_cases hlt : j < rs.length
   ·obtain ⟨b, o, A1, c1, A2, c2, r, hd, rfl, hob, k0, k1, k2, k3, k4, k5, k6, hat, hl1, hl2⟩ := (H.out.below hb2.out).getRulAt hlt
    have hob' : b < wp.heap.size := Nat.lt_of_lt_of_le hob hsz2
    have hmem := mem_of_drop hd.out
    have hcall : Calls Tryd.prog 51 #[.agg #[.int .u8 r.name, .int .i64 r.arity, .int .u8 r.left, .int .u8 r.right, .slice A1 r.guards.length c1, .int .i64 r.weight, .slice A2 r.out.length c2]] wp (BoolPost (coreR r) wp) :=
     refRFine_calls r A1 c1 A2 c2 wp (hat.out.to hsz2 (Below.refl _ _)) (Hs.out.g r hmem) (Hs.out.o r hmem) (Hs.out.a r hmem)
    obtain ⟨Hcall, Hmem⟩ := HH2 hcall hmem; clear hcall hmem
    go_wp2_with fail
    refine (Hcall.out).mono ?_
    rintro e w1 ⟨rfl, hb1⟩
    have hbw : Below w.heap.size w w1 := hb2.out.trans (hb1.mono hsz2)
    have l0 := (hb1.cell (p := ⟨b, o + j * 7 + 2, none⟩) hob').trans k2
    have l1 := (hb1.cell (p := ⟨b, o + j * 7 + 3, none⟩) hob').trans k3
    have l2 := (hb1.cell (p := ⟨b, o + j * 7 + 5, none⟩) hob').trans k5
    have Hbw := HH1 hbw; clear hbw
    clear hb1 k0 k1 k2 k3 k4 k5 k6
    have hcs : (fineC r = false /\ (coreR r = false ∨ (coreR r = true /\ (r.left != 0) = true) ∨ (coreR r = true /\ (r.left != 0) = false /\ (r.right != 0) = true) ∨ (coreR r = true /\ (r.left != 0) = false /\ (r.right != 0) = false /\ r.weight < 1) ∨ (coreR r = true /\ (r.left != 0) = false /\ (r.right != 0) = false /\ ¬ r.weight < 1 /\ 1000000 < r.weight))) ∨
      (fineC r = true /\ coreR r = true /\ (r.left != 0) = false /\ (r.right != 0) = false /\ ¬ r.weight < 1 /\ ¬ 1000000 < r.weight) := by
     unfold fineC okW
     cases coreR r
     ·exact .inl ⟨rfl, .inl rfl⟩
     ·by_cases h1 : r.left = 0
      ·by_cases h2 : r.right = 0
       ·by_cases h3 : r.weight < 1
        ·left; simp [h1, h2, h3]; omega
        ·by_cases h4 : 1000000 < r.weight
         ·left; simp [h1, h2, h3, h4]
         ·right; simp [h1, h2, h3, h4]; omega
       ·left; simp [h1, h2]
      ·left; simp [h1]
    rcases hcs with ⟨hfm, hcs⟩ | ⟨hfm, hc0, hc1, hc2, hc3, hc4⟩
    ·have hno : checkC rs = 8 := by rw [Hck.out, if_neg (by rw [hall.out, hd.out, List.all_cons, hfm]; simp)]
     obtain ⟨Hno, Hfm⟩ := HH2 hno hfm; clear hno hfm
     rcases hcs with hc0 | ⟨hc0, hc1⟩ | ⟨hc0, hc1, hc2⟩ | ⟨hc0, hc1, hc2, hc3⟩ | ⟨hc0, hc1, hc2, hc3, hc4⟩
     all_goals
      rw [hc0]
      have Hc0 := HH1 hc0; clear hc0
      go_wp2
      go_ret
      exact ⟨by rw [Hno.out]; rfl, Hbw.out⟩
    ·have Hfm := HH1 hfm; clear hfm
     rw [hc0]
     have Hc0 := HH1 hc0; clear hc0
     go_wp2
     go_roundw
     case rel =>
      refine ⟨j + 1, by omega, by go_num, Hbw, Hbw.out.size, ?_⟩
      unfold Hid; rw [hall.out, hd.out, List.all_cons, Hfm.out]; rfl
     case measure => simp [intOf]; omega
   ·go_wp2
    go_ret
    exact ⟨ret_int (by rw [Hck.out, if_pos (by rw [hall.out, drop_end hlt]; rfl)]), hb2.out⟩
 ·have hck := checkC_many hmm
  obtain ⟨Hck, Hmm⟩ := HH2 hck hmm; clear hck hmm
  go_enter Tryd.func22, Tryd.ntmps22
  go_wp2_with fail
  refine (many_calls A c rs _ H.out).mono ?_
  rintro e w' ⟨rfl, rfl⟩
  rw [Hmm.out]
  go_wp2
  go_ret
  exact ⟨by rw [Hck.out]; rfl, Below.refl _ _⟩
end
section
open Go.RowKit Go.Sort Go.BigFrame
theorem cel_beq (x y : Cel) : (x == y) = (decide (x.path = y.path) && x.mod == y.mod) := by
 obtain ⟨p, m⟩ := x
 obtain ⟨q, n⟩ := y
 rw [Bool.eq_iff_iff]
 simp
theorem cons_beq {α : Type} [BEq α] (a b : α) (s t : List α) : ((a :: s) == (b :: t)) = (a == b && s == t) := rfl
theorem sameC_calls (A B : Option Addr) (c c' : Nat) (xs ys : List Cel) (w : World) (h : SlAt pCel (Old w) w A c xs) (h' : SlAt pCel (Old w) w B c' ys) :
  Calls Tryd.prog 15 #[.slice A xs.length c, .slice B ys.length c'] w (BoolPost (xs == ys) w) := by
 have hmx := h.lenle
 have hmy := h'.lenle
 obtain ⟨H, H'⟩ := HH2 h h'; clear h h'
 by_cases hl : xs.length = ys.length
 ·have e1 : ((xs.length : Int) != (ys.length : Int)) = false := by simp [hl]
  have Hl := HH1 hl; clear hl
  go_enter Tryd.func15, Tryd.ntmps15
  go_wp2
  go_loopw [5] (fun i wr => ∃ k : Nat, k <= xs.length /\ i = .int .i64 k /\ Hid ((xs == ys) = (xs.drop k == ys.drop k)) /\ Hid (Below w.heap.size w wr) /\ w.heap.size <= wr.heap.size) (fun i _ => xs.length - (intOf i).toNat)
  case atStart => exact ⟨0, Nat.zero_le _, rfl, rfl, Below.refl _ _, Nat.le_refl _⟩
  case round =>
   obtain ⟨k, hk, rfl, hin, hb, hsz⟩ := hrel
   obtain ⟨wo, rfl⟩ : ∃ wo : World, wo = wr := ⟨_, rfl⟩
   by_cases hlt : k < xs.length
   ·have hlt' : k < ys.length := by rw [<- Hl.out]; exact hlt
    obtain ⟨b, o, A', d, m, hdx, rfl, _, x0, x1, x2, _, _, hxa, _⟩ := (H.out.below hb.out).getCel hlt
    obtain ⟨b', o', B', d', n, hdy, rfl, _, z0, z1, z2, _, _, hya, _⟩ := (H'.out.below hb.out).getCel hlt'
    have hcall : ∀ (q : Nat) (os : Array Obj), Calls Tryd.prog 41 #[.agg #[.int .u8 m.mod.name, .slice A' m.mod.args.length d], .agg #[.int .u8 n.mod.name, .slice B' n.mod.args.length d']] (grow (redrawn wo q) os) fun e w'' => e = .returned (.bool (m.mod == n.mod)) /\ ∃ p : Regrown, w'' = grow (redrawn wo p.d) p.os := fun q os =>
     have hg := below_regrown wo q os
     Calls.regrown_of (sameMods_calls A' B' d d' m.mod n.mod _ (hxa.out.keep fun k hk => hg.block k (Nat.lt_of_lt_of_le hk hsz)) (hya.out.keep fun k hk => hg.block k (Nat.lt_of_lt_of_le hk hsz)) (fun k hk => Nat.lt_of_lt_of_le (Nat.lt_of_lt_of_le hk hsz) hg.size))
    have kx0 := cell_regrown x0
    have kx1 := cell_regrown x1
    have kx2 := cell_regrown x2
    have ky0 := cell_regrown z0
    have ky1 := cell_regrown z1
    have ky2 := cell_regrown z2
    have Hcall := HH1 hcall; clear hcall
    clear x0 x1 x2 z0 z1 z2
    have hk0 : (0 : Int) <= (k : Int) := Int.natCast_nonneg _
    have hk1 : (k : Int) < (xs.length : Int) := by omega
    have hk2 : (k : Int) < (ys.length : Int) := by omega
    by_cases hp : m.path = n.path
    ·rw [hp] at kx0
     have hst : (xs == ys) = (m.mod == n.mod && (xs.drop (k + 1) == ys.drop (k + 1))) := by
      rw [hin.out, hdx.out, hdy.out, cons_beq, cel_beq, decide_eq_true hp, Bool.true_and]
     generalize hmn : (m.mod == n.mod) = t at Hcall hst
     obtain ⟨Hp, Hst, Hmn⟩ := HH3 hp hst hmn; clear hp hst hmn
     clear hin hxa hya
     go_wp2
     refine wp_region_quiet_below (by kernel_rfl) (by kernel_rfl) ?_
     iterate 25 (go_big_quiet_step (exact (Hcall.out _ _).mono fun e w'' h => h))
     refine wpQuiet_nil ?_
     intro _ hw'
     obtain ⟨⟨dq, osq⟩, hw''⟩ := hw'
     subst hw''
     have hbr := below_regrown wo dq osq
     have hbx := hb.out.trans (hbr.mono hsz)
     have Hbx := HH1 hbx; clear hbx
     clear hbr kx0 kx1 kx2 ky0 ky1 ky2
     cases t
     ·go_wp2
      go_ret
      exact ⟨ret_bool (by rw [Hst.out]; rfl), Hbx.out⟩
     ·go_wp2
      go_roundw
      case rel => exact ⟨k + 1, by omega, by go_num, by unfold Hid; rw [Hst.out]; rfl, Hbx, Hbx.out.size⟩
      case measure => simp [intOf]; omega
    ·have hpl : m.path.toList ≠ n.path.toList := fun e => hp (by rw [ByteArray.toList_eq, ByteArray.toList_eq] at e; exact ByteArray.ext (Array.toList_inj.1 e))
     have e2 : (m.path.toList == n.path.toList) = false := beq_false_of_ne hpl
     have e3 : (m.path.toList != n.path.toList) = true := by simp [hpl]
     have hst : (xs == ys) = false := by
      rw [hin.out, hdx.out, hdy.out, cons_beq, cel_beq, decide_eq_false hp]; rfl
     clear hpl
     obtain ⟨Hp, Hst⟩ := HH2 hp hst; clear hp hst
     clear hin hxa hya
     go_wp2
     refine wp_region_quiet_below (by kernel_rfl) (by kernel_rfl) ?_
     iterate 25 (go_big_quiet_step (exact (Hcall.out _ _).mono fun e w'' h => h))
     refine wpQuiet_nil ?_
     intro _ hw'
     obtain ⟨⟨dq, osq⟩, hw''⟩ := hw'
     subst hw''
     have hbr := below_regrown wo dq osq
     have hbx := hb.out.trans (hbr.mono hsz)
     have Hbx := HH1 hbx; clear hbx
     clear hbr kx0 kx1 kx2 ky0 ky1 ky2
     go_wp2
     go_ret
     exact ⟨ret_bool (by rw [Hst.out]), Hbx.out⟩
   ·have hy : (xs == ys) = true := by rw [hin.out, drop_end hlt, drop_end (by rw [<- Hl.out]; exact hlt)]; rfl
    have Hy := HH1 hy; clear hy
    clear hin
    go_wp2
    go_ret
    exact ⟨ret_bool (by rw [Hy.out]), hb.out⟩
 ·have e1 : ((xs.length : Int) != (ys.length : Int)) = true := by simp; omega
  have hy : (xs == ys) = false := beq_false_of_ne fun e => hl (by rw [e])
  obtain ⟨Hl, Hy⟩ := HH2 hl hy; clear hl hy
  go_enter Tryd.func15, Tryd.ntmps15
  go_wp2
  go_ret
  exact ⟨ret_bool (by rw [Hy.out]), Below.refl _ _⟩
end
section
open Go.RowKit
def TabAt (w : World) : Prop := Lib.TabIs Tryd.prog w "internal/strconv.uint64pow10" .u64 Lib.pow10Tab
def GAt (w : World) : Prop := ∃ g, Tryd.prog.globalNamed "internal/strconv.uint64pow10" = some g /\ g < w.heap.size
theorem TabAt.later {w w' : World} (h : TabAt w) (hb : Below w.heap.size w w') (hg : GAt w) : TabAt w' := by
 obtain ⟨g, h1, h2⟩ := hg
 exact var?_below hb h1 h2 h
theorem GAt.later {w w' : World} (h : GAt w) (hb : Below w.heap.size w w') : GAt w' := by
 obtain ⟨g, h1, h2⟩ := h
 exact ⟨g, h1, Nat.lt_of_lt_of_le h2 hb.size⟩
def itoaB (k : Nat) : ByteArray := ⟨(Lib.itoa (k : Int)).toArray⟩
theorem itoaB_size {k : Nat} (h : k <= 1000000) : (itoaB k).size <= 21 := by
 have h1 := Lib.itoa_length_le (k : Int) (by omega) (by omega)
 have h2 : (itoaB k).size = (Lib.itoa (k : Int)).length := by show (Lib.itoa (k : Int)).toArray.size = _; simp
 omega
theorem below_grow2 (w : World) (k : Nat) (os : Array Obj) : Below w.heap.size w (Go.Sort.grow (w.drewN k) os) :=
 ⟨rfl, rfl, rfl, by show w.heap.size <= (w.heap ++ os).size; simp, fun i hi => by show (w.heap ++ os)[i]? = _; rw [Array.getElem?_append_left hi]⟩
theorem itoaC_calls (k : Nat) (w : World) (hk : k <= 1000000) (ht : TabAt w) : Calls Tryd.prog 44 #[.int .i64 k] w fun e w' => e = .returned (.string (itoaB k)) /\ Below w.heap.size w w' := by
 refine (Tryd.strconv_Itoa k (by omega) (by omega) w ht).mono ?_
 rintro e w' ⟨rfl, q, os, rfl⟩
 exact ⟨rfl, below_grow2 _ _ _⟩
def celI (k : Nat) (m : Mod) : Cel := ⟨itoaB k, m⟩
def beginL (ms : List Mod) : List Cel := ms.mapIdx celI
theorem beginL_len (ms : List Mod) : (beginL ms).length = ms.length := by unfold beginL; simp
theorem beginL_take {ms : List Mod} {k : Nat} {m : Mod} {r : List Mod} (h : ms.drop k = m :: r) : (beginL ms).take (k + 1) = (beginL ms).take k ++ [celI k m] := by
 rw [List.take_add_one]
 unfold beginL
 rw [List.getElem?_mapIdx, get_of_drop h]; rfl
def beginR (ms : List Mod) : List Cel × Int := if checkF ms = 0 then (beginL ms, 0) else ([], checkF ms)
def BeginPost (r : List Cel × Int) (w : World) (e : Ending) (w' : World) : Prop := ∃ A c, e = .returned (.tuple #[.slice A r.1.length c, .int .i64 r.2]) /\ SlAt pCel (Old w') w' A c r.1 /\ Below w.heap.size w w'
theorem beginPost_none {r : List Cel × Int} {x : Int} {w w' : World} (h : r = ([], x)) (hb : Below w.heap.size w w') : BeginPost r w (.returned (.tuple #[.slice none 0 0, .int .i64 x])) w' := by
 subst h
 exact ⟨none, 0, rfl, (Own.nil (E := pCel) (e := 51) (base := 0) (G := fun _ => False) (w := w')).sl'.2.wide fun k hk => hk.2, hb⟩
theorem begin_calls (A : Option Addr) (c : Nat) (ms : List Mod) (w : World) (h : SlAt pMod (Old w) w A c ms) (hbd : ms.length <= 10000) (hbd2 : ∀ m ∈ ms, m.args.length <= 1000) (ht : TabAt w) (hg : GAt w) :
  Calls Tryd.prog 17 #[.slice A ms.length c] w (BeginPost (beginR ms) w) := by
 have hmx := h.lenle
 have hck := wordCheck_calls A c ms w h
 obtain ⟨H, Hck, Ht, Hg, Hbd2⟩ := HH5 h hck ht hg hbd2; clear h hck ht hg hbd2
 by_cases h0 : checkF ms = 0
 ·have hr : beginR ms = (beginL ms, 0) := by unfold beginR; rw [if_pos h0]
  have hck : Calls Tryd.prog 42 #[.slice A ms.length c] w fun e w' => e = .returned (.int .i64 0) /\ Below w.heap.size w w' := by
   have := Hck.out
   unfold CheckPost at this
   rwa [h0] at this
  clear h0 Hck
  obtain ⟨Hr, Hck⟩ := HH2 hr hck; clear hr hck
  go_enter Tryd.func17, Tryd.ntmps17
  go_wp2_with fail
  refine Hck.out.mono ?_
  rintro e w1 ⟨rfl, hb1⟩
  have htw := twin_calls A c ms w1 (H.out.later hb1) hbd Hbd2.out
  have hz1 := hb1.size
  have ht1 := Ht.out.later hb1 Hg.out
  have hg1 := Hg.out.later hb1
  obtain ⟨Htw, Hb1, Ht1, Hg1⟩ := HH4 htw hb1 ht1 hg1; clear htw hb1 ht1 hg1
  go_wp2_with fail
  refine Htw.out.mono ?_
  rintro e w2 ⟨A2, c2, rfl, hs2, hb2⟩
  have hs2' : SlAt pMod (Old w2) w2 A2 c2 ms := slF hs2
  have hbw := Hb1.out.trans (hb2.mono hz1)
  have hz2 := hbw.size
  have ht2 := Ht1.out.later hb2 Hg1.out
  have hg2 := Hg1.out.later hb2
  obtain ⟨Hs2', Hbw, Ht2, Hg2⟩ := HH4 hs2' hbw ht2 hg2; clear hs2' hbw ht2 hg2
  clear hs2 hb2 Htw
  go_wp2
  go_loopw [16, 5] (fun i out wr => ∃ k : Nat, k <= ms.length /\ i = .int .i64 k /\ Hid (Below w2.heap.size w2 wr) /\ w2.heap.size <= wr.heap.size /\ ∃ A' c', out = .slice A' k c' /\ Hid (Own pCel 51 w2.heap.size (fun _ => True) wr out ((beginL ms).take k))) (fun i _ _ => ms.length - (intOf i).toNat)
  case atStart => exact ⟨0, Nat.zero_le _, rfl, Below.refl _ _, Nat.le_refl _, none, 0, rfl, Own.nil⟩
  case round =>
   obtain ⟨k, hk, rfl, hb, hsz, Ao, co, rfl, hown⟩ := hrel
   obtain ⟨wo, rfl⟩ : ∃ wo : World, wo = wr := ⟨_, rfl⟩
   by_cases hlt : k < ms.length
   ·obtain ⟨b, o, A', c', m, hd, rfl, hob, k0, k1, hf8, hargs, hal⟩ := (Hs2'.out.below hb.out).getMod hlt
    have hob' : b < wo.heap.size := Nat.lt_of_lt_of_le hob hsz
    obtain ⟨W1, hW1⟩ : ∃ W1, W1 = wo.alloc (.cells #[.int .u8 m.name, .slice A' m.args.length c'] 49) := ⟨_, rfl⟩
    have hbW : Below wo.heap.size wo W1 := by rw [hW1]; exact (Below.refl _ _).alloc (Nat.le_refl _) _
    have hblk : Blk W1 wo.heap.size 49 #[.int .u8 m.name, .slice A' m.args.length c'] := by rw [hW1]; exact Blk.new _ _ _
    have hzW : wo.heap.size < W1.heap.size := hblk.lt
    have hbW2 : Below w2.heap.size w2 W1 := hb.out.trans (hbW.mono hsz)
    have htW := (Ht2.out.later hbW2 Hg2.out)
    obtain ⟨it, hit⟩ : ∃ it, itoaB k = it := ⟨_, rfl⟩
    have his : it.size <= 21 := by rw [<- hit]; exact itoaB_size (by omega)
    have hcel : celI k m = ⟨it, m⟩ := by unfold celI; rw [hit]
    have hcall : Calls Tryd.prog 44 #[.int .i64 k] W1.drew fun e w' => e = .returned (.string it) /\ Below W1.heap.size W1 w' := by
     refine (itoaC_calls k W1.drew (by omega) htW).mono ?_
     rintro e w' ⟨rfl, hb'⟩
     exact ⟨by rw [hit], (below_drew (Below.refl _ _)).trans hb'⟩
    have step2 : ∀ wv : World, Below W1.heap.size W1 wv ->
      Own pCel 51 w2.heap.size (fun _ => True) (wv.alloc (.cells #[.string it, .int .u8 m.name, .slice A' m.args.length c'] 51)) (.slice Ao k co) ((beginL ms).take k) /\
      SlAt pCel (fun q => Old w2 q ∨ q = wv.heap.size) (wv.alloc (.cells #[.string it, .int .u8 m.name, .slice A' m.args.length c'] 51)) (some ⟨wv.heap.size, 0, none⟩) 1 [⟨it, m⟩] := by
     intro wv hv
     have hbv : Below wo.heap.size wo wv := hbW.trans (hv.mono (Nat.le_of_lt hzW))
     refine ⟨(hown.out.later hbv).alloc _, ?_⟩
     refine sl_boxed (u := .agg #[.string it, .int .u8 m.name, .slice A' m.args.length c']) (F := Old w2) ⟨A', c', rfl, ?_, hf8, hargs.out.keep fun q hq => hbv.block q (Nat.lt_of_lt_of_le hq hsz)⟩ fun q hq => ?_
     ·show it.size <= maxLen
      unfold maxLen; omega
     ·have : q < w2.heap.size := hq
      have := hbv.size
      omega
    have hFq : ∀ wv : World, Below W1.heap.size W1 wv -> ∀ q, (Old w2 q ∨ q = wv.heap.size) -> True /\ q < (wv.alloc (.cells #[.string it, .int .u8 m.name, .slice A' m.args.length c'] 51)).heap.size /\ some q ≠ (Value.slice Ao k co).ownBlock := fun wv hv q hq => by
     have hz := hv.size
     have hz3 := hbW2.size
     rcases hq with hq | hq
     ·have hq' : q < w2.heap.size := hq
      refine ⟨trivial, by simp; omega, fun he => ?_⟩
      have := (hown.out.lt q he.symm).1
      omega
     ·subst hq
      refine ⟨trivial, by simp, fun he => ?_⟩
      have := (hown.out.lt _ he.symm).2
      omega
    have hB : ∀ wv : World, Below W1.heap.size W1 wv -> w2.heap.size <= (wv.alloc (.cells #[.string it, .int .u8 m.name, .slice A' m.args.length c'] 51)).heap.size := fun wv hv => by
     have hz := hv.size
     have hz3 := hbW2.size
     simp; omega
    have hlk : ((beginL ms).take k ++ [(⟨it, m⟩ : Cel)]).length = k + 1 := by have := beginL_len ms; simp; omega
    have hrk : Room (k + 1) := room_of (by omega)
    have htk : (beginL ms).take (k + 1) = (beginL ms).take k ++ [⟨it, m⟩] := by rw [beginL_take hd.out, hcel]
    have kp1 : ∀ wv : World, Below W1.heap.size W1 wv -> wv.cell? ⟨wo.heap.size, 0, none⟩ = some (.int .u8 m.name) /\ wv.cell? ⟨wo.heap.size, 1, none⟩ = some (.slice A' m.args.length c') := fun wv hv =>
     ⟨((hblk.same (hv.block _ hzW)).cell 0).trans rfl, ((hblk.same (hv.block _ hzW)).cell 1).trans rfl⟩
    have kp2 : ∀ (wv wz : World) (ob : Obj) (v' : Value), Below W1.heap.size W1 wv -> Hid (Grew w2.heap.size (wv.alloc ob) wz (.slice Ao k co) v') -> wz.cell? ⟨wo.heap.size, 0, none⟩ = some (.int .u8 m.name) /\ wz.cell? ⟨wo.heap.size, 1, none⟩ = some (.slice A' m.args.length c') := fun wv wz ob v' hv hgz => by
     have hz := hv.size
     have e : wz.heap[wo.heap.size]? = W1.heap[wo.heap.size]? := ((hgz.out.oth _ (by simp; omega) fun he => by have := (hown.out.lt _ he.symm).2; omega).trans (Below.heap_alloc _ _ _ (by omega))).trans (hv.block _ hzW)
     exact ⟨((hblk.same e).cell 0).trans rfl, ((hblk.same e).cell 1).trans rfl⟩
    have hrest : ∀ (wv wz : World) (ob : Obj) (v' : Value), Below W1.heap.size W1 wv -> Hid (Grew w2.heap.size (wv.alloc ob) wz (.slice Ao k co) v') -> Below w2.heap.size w2 wz := fun wv wz ob v' hv hgz =>
     ((hbW2.trans (hv.mono hbW2.size)).alloc (by have := hv.size; have := hbW2.size; omega) _).trans hgz.out.bel
    obtain ⟨Hcall, Step2, HFq, HB, Hlk, Hrk, Htk, Kp1, Kp2, Hrest⟩ := HH10 hcall step2 hFq hB hlk hrk htk kp1 kp2 hrest; clear hcall step2 hFq hB hlk hrk htk kp1 kp2 hrest
    clear hargs hd hbW hbW2 hblk hcel hit htW hob hob' hf8
    go_wp2_with fail
    go_region_held3 (fun w' => w'.cell? ⟨wo.heap.size, 0, none⟩ = some (.int .u8 m.name) /\ w'.cell? ⟨wo.heap.size, 1, none⟩ = some (.slice A' m.args.length c'))
     (first | go_keep | exact Kp1.out _ hbv | exact Kp2.out _ _ _ _ hbv hgz)
     (first
      | (go_at_call 44; rw [<- hW1]; with_reducible refine Hcall.out.mono ?_; rintro e wv ⟨rfl, hbv⟩)
      | (refine step_catG (E := pCel) (xs := (beginL ms).take k) (base := w2.heap.size) (G := fun _ => True) 26 51 (.agg #[.string ByteArray.empty, .int .u8 0, .slice none 0 0]) 48 (.tmp 21) (.tmp 26) rfl rfl Tryd.underlying26 info_cel rfl (by decide) rfl (Step2.out _ hbv).1 _ 1 [⟨it, m⟩] rfl _ (Step2.out _ hbv).2 (HFq.out _ hbv) (k + 1) Hlk.out Hrk.out (by decide) (HB.out _ hbv) ?_; intro Az cz wz hoz hgz))
    have hbz := Hrest.out _ _ _ _ hbv hgz
    have hzz := hbz.size
    have Hbz := HH1 hbz; clear hbz
    clear Step2 Kp1 Kp2 hbv hgz HB HFq Hrest
    go_wp2
    go_roundw
    case rel =>
     refine ⟨k + 1, by omega, by go_num, Hbz, hzz, Az, cz, rfl, ?_⟩
     unfold Hid; rw [Htk.out]; exact hoz.out
    case measure => simp [intOf]; omega
   ·obtain rfl : k = ms.length := by omega
    have hl := beginL_len ms
    have ho := hown.out
    rw [List.take_of_length_le (by omega)] at ho
    have hs : SlAt pCel (Old wo) wo Ao co (beginL ms) := ho.sl'.2.wide fun q hq => hq.2
    have hbz := Hbw.out.trans (hb.out.mono hz2)
    obtain ⟨Hs, Hbz⟩ := HH2 hs hbz; clear hs hbz
    clear ho
    generalize beginL ms = L at Hr hl Hs
    have Hl := HH1 hl; clear hl
    go_wp2
    go_ret2
    rw [Hr.out]
    refine ⟨Ao, co, ?_, Hs.out, Hbz.out⟩
    show Ending.returned (.tuple #[.slice Ao ms.length co, .int .i64 0]) = _
    rw [Hl.out]
 ·have hr : beginR ms = ([], checkF ms) := by unfold beginR; rw [if_neg h0]
  have e0 : (checkF ms != 0) = true := by simp [h0]
  unfold CheckPost at Hck
  generalize checkF ms = x at Hck hr e0
  clear h0
  have Hr := HH1 hr; clear hr
  go_enter Tryd.func17, Tryd.ntmps17
  go_wp2_with fail
  refine Hck.out.mono ?_
  rintro e w1 ⟨rfl, hb1⟩
  have Hb1 := HH1 hb1; clear hb1
  go_wp2
  go_ret2
  exact beginPost_none Hr.out Hb1.out
end
section
open Go.RowKit
end
section
open Go.RowKit
end
section
open Go.RowKit Go.Sort
end
section
open Go.RowKit
end
end Go.Proofs.YtlipmagkplbkdaaDoor
