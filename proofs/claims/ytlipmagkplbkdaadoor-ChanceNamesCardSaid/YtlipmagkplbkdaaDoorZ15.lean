/-
  Several texts in one.
-/
import Derived.Test.YtlipmagkplbkdaaDoorZ14
import Derived.Test.YtlipmagkplbkdaaDoorZ13
import Derived.Test.YtlipmagkplbkdaaDoorZ8
import Derived.Test.YtlipmagkplbkdaaDoorZ12
import Derived.Test.YtlipmagkplbkdaaDoorZ7
import Derived.Test.YtlipmagkplbkdaaDoorZ11
/-! N4 -/
namespace Go.Proofs.YtlipmagkplbkdaaDoor
open Go Go.Conc Go.RowKit
set_option linter.unusedVariables false
set_option linter.unusedSimpArgs false
noncomputable def alB : Code := match Tryd.f33.body with | some c => c | none => .skip
theorem alBody : Tryd.f33.body = some alB := by kernel_rfl
noncomputable def alR0 : Code := match alB with | .seq a _ => a | _ => .skip
noncomputable def alR1 : Code := match alB with | .seq _ (.seq a _) => a | _ => .skip
noncomputable def alR2 : Code := match alB with | .seq _ (.seq _ (.seq a _)) => a | _ => .skip
noncomputable def alR3 : Code := match alB with | .seq _ (.seq _ (.seq _ (.seq a _))) => a | _ => .skip
noncomputable def alR4 : Code := match alB with | .seq _ (.seq _ (.seq _ (.seq _ (.seq a _)))) => a | _ => .skip
noncomputable def alR5 : Code := match alB with | .seq _ (.seq _ (.seq _ (.seq _ (.seq _ (.seq a _))))) => a | _ => .skip
noncomputable def alO6 : Array Oper := match alB with | .seq _ (.seq _ (.seq _ (.seq _ (.seq _ (.seq _ (.seq (.region _ o _) _)))))) => o | _ => #[]
noncomputable def alT : Code := match alB with | .seq _ (.seq _ (.seq _ (.seq _ (.seq _ (.seq _ (.seq _ a)))))) => a | _ => .skip
theorem alB_eq : alB = .seq alR0 (.seq alR1 (.seq alR2 (.seq alR3 (.seq alR4 (.seq alR5 (.seq (.region 6 alO6 false) alT)))))) := by kernel_rfl
theorem alz6 : List.range alO6.size = [0, 1, 2, 3, 4, 5, 6, 7] := by kernel_rfl
theorem alTm : (#[] ++ Array.replicate (Tryd.f33.ntmps - (#[] : Array Value).size) undef : Array Value) = Array.replicate 109 undef := by kernel_rfl
theorem alTm2 : (Array.replicate 109 undef : Array Value) = #[undef, undef, undef, undef, undef, undef, undef, undef, undef, undef, undef, undef, undef, undef, undef, undef, undef, undef, undef, undef, undef, undef, undef, undef, undef, undef, undef, undef, undef, undef, undef, undef, undef, undef, undef, undef, undef, undef, undef, undef, undef, undef, undef, undef, undef, undef, undef, undef, undef, undef, undef, undef, undef, undef, undef, undef, undef, undef, undef, undef, undef, undef, undef, undef, undef, undef, undef, undef, undef, undef, undef, undef, undef, undef, undef, undef, undef, undef, undef, undef, undef, undef, undef, undef, undef, undef, undef, undef, undef, undef, undef, undef, undef, undef, undef, undef, undef, undef, undef, undef, undef, undef, undef, undef, undef, undef, undef, undef, undef] := by kernel_rfl
theorem aokR0 : okC Tryd.prog gR sR alR0 = true := by kernel_rfl
theorem aokR1 : okC Tryd.prog gR sR alR1 = true := by kernel_rfl
theorem aokR2 : okC Tryd.prog gR sR alR2 = true := by kernel_rfl
theorem aokR3 : okC Tryd.prog gR sR alR3 = true := by kernel_rfl
theorem aokR4 : okC Tryd.prog gR sR alR4 = true := by kernel_rfl
theorem aokR5 : okC Tryd.prog gR sR alR5 = true := by kernel_rfl
def bA : Frame := { (default : Frame) with fn := 33, kind := .normal }
theorem bA_fn : ∃ fn, Tryd.prog.funcs[bA.fn]? = some fn := ⟨Tryd.f33, Tryd.func33⟩
theorem exW_small : exW.length ≤ 10000 ∧ ∀ m ∈ exW, m.args.length ≤ 1000 := by decide +kernel
theorem exRs_small : Small exRs := small_of (by decide +kernel)
theorem exTwo_small : Small exTwo := small_of (by decide +kernel)
theorem sl9 {α : Type} {E : Rp α} {F : Nat → Prop} {w' : World} {A : Option Addr} {c : Nat} {xs : List α} (h : SlAt E F w' A c xs) (hF : ∀ k, F k → k < w'.heap.size) : SlAt E (Old w') w' A c xs := h.wide hF
section
variable {F : Value → Prop} {cs : List Frame}
theorem own_fresh' {α : Type} {E : Rp α} {e : TypeId} {base : Nat} {w : World} {A : Option Addr} {n c : Nat} {xs : List α} (h : Own E e base (base ≤ ·) w (.slice A n c) xs) : SlAt E (fun k => base ≤ k ∧ k < w.heap.size) w A c xs := by
  obtain ⟨A', c', h1, h2⟩ := h.fresh
  injection h1 with e1 e2 e3
  subst e1 e3
  exact h2
def AlK (F : Value → Prop) (cs : List Frame) (v0 : World) : Prop := ∀ ch a' v' todo, a'.defers = [] → slot a' 0 (.bool true) → Kp v0 v' → MS Tryd.prog SR gR sR F [] ch { bA.at a' todo with mode := .returning } cs v'
structure AlS (W2 L O T C : Option Addr) (wl ll ol tl cl n : Nat) (a : Act) : Prop where
  sz : a.tmps.size = 109
  df : a.defers = []
  s0 : slot a 0 (.bool false)
  s1 : slot a 1 (.slice W2 4 wl)
  s2 : slot a 2 (.slice L 4 ll)
  s3 : slot a 3 (.int .i64 0)
  s4 : slot a 4 (.slice O 2 ol)
  s5 : slot a 5 (.int .i64 0)
  s6 : slot a 6 (.slice T 2 tl)
  s7 : slot a 7 (.slice C n cl)
  s8 : slot a 8 (.int .i64 0)
set_option maxRecDepth 100000 in
set_option maxHeartbeats 4000000 in
theorem al_head {ch : Option Nat} {v : World} {cc : List Cel} (h1 : oneR exTwo 5 (cellN p2 65) = (cc, 0)) (ht : TabAt v) (hg : GAt v)
    (hl : ∀ a v' W2 L O T C wl ll ol tl cl, AlS W2 L O T C wl ll ol tl cl cc.length a → SlAt pMod (Old v') v' W2 wl exW → SlAt pCel (Old v') v' L ll exL → SlAt pCel (Old v') v' O ol exBC → SlAt pRul (Old v') v' T tl exTwo → SlAt pCel (Old v') v' C cl cc → Kp v v' →
      MS Tryd.prog SR gR sR F [] ch (bA.at a [.code (.seq (.region 6 alO6 false) alT)]) cs v') :
    MS Tryd.prog SR gR sR F [] ch (Frame.enter Tryd.prog 33 #[] .normal) cs v := by
  have hX : Walk Tryd.prog SR gR sR (MS Tryd.prog SR gR sR F [] ch) := MS.walk ctxR
  rw [enter_eq Tryd.func33 alBody, alB_eq, alTm, alTm2]
  show MS Tryd.prog SR gR sR F [] ch (bA.at _ _) cs v
  refine hX.seq (hX.wp ctxR rfl bA_fn aokR0 fun τ d => ?_)
  have k1 : Kp v (Go.Proofs.YtlipmagkplbkdaaDoor.at2 v τ d) := Kp.at2 _ _ _
  generalize Go.Proofs.YtlipmagkplbkdaaDoor.at2 v τ d = v1 at k1 ⊢
  have Hl := Lib.hid hl; clear hl
  have HX := Lib.hid hX; clear hX
  have Ht := Lib.hid ht; clear ht
  have Hg := Lib.hid hg; clear hg
  dsimp only [alR0, alB, Tryd.f33]
  go_wp2
  refine HX.out.seq (HX.out.wp ctxR rfl bA_fn aokR1 fun τ d => ?_)
  have k2 : Kp v (Go.Proofs.YtlipmagkplbkdaaDoor.at2 v1 τ d) := k1.trans (Kp.at2 _ _ _)
  generalize Go.Proofs.YtlipmagkplbkdaaDoor.at2 v1 τ d = v2 at k2 ⊢
  dsimp only [alR1, alB, Tryd.f33]
  go_wp2
  have hw := lit9 (E := pMod) (w := v2) (t := 49) (cells := #[.int .u8 70, .slice none 0 0, .int .u8 91, .slice none 0 0, .int .u8 65, .slice none 0 0, .int .u8 93, .slice none 0 0]) (xs := exW)
    ⟨[_, _], _, rfl, bare_R9 (fits_u8 (by decide)), [_, _], _, rfl, bare_R9 (fits_u8 (by decide)), [_, _], _, rfl, bare_R9 (fits_u8 (by decide)), [_, _], [], rfl, bare_R9 (fits_u8 (by decide)), rfl⟩ (by decide) (n := 4) rfl
  have k3 := k2.trans (Kp.alloc v2 (.cells #[.int .u8 70, .slice none 0 0, .int .u8 91, .slice none 0 0, .int .u8 65, .slice none 0 0, .int .u8 93, .slice none 0 0] 49))
  obtain ⟨A2, hA2⟩ : ∃ A2, (some ⟨v2.heap.size, 0, none⟩ : Option Addr) = A2 := ⟨_, rfl⟩
  rw [hA2] at hw ⊢
  clear hA2
  generalize hv3 : v2.alloc (.cells #[.int .u8 70, .slice none 0 0, .int .u8 91, .slice none 0 0, .int .u8 65, .slice none 0 0, .int .u8 93, .slice none 0 0] 49) = v3 at hw k3 ⊢
  clear hv3 k2
  have Hw := Lib.hid hw; clear hw
  refine HX.out.seq (HX.out.wp ctxR rfl bA_fn aokR2 fun τ d => ?_)
  have k4 : Kp v (Go.Proofs.YtlipmagkplbkdaaDoor.at2 v3 τ d) := k3.trans (Kp.at2 _ _ _)
  have hw4 := Hw.out.kp eqv_mod (Kp.at2 v3 τ d)
  generalize Go.Proofs.YtlipmagkplbkdaaDoor.at2 v3 τ d = v4 at k4 hw4 ⊢
  clear k3
  have hbg : Calls Tryd.prog 17 #[.slice A2 4 4] v4 (BeginPost (beginR exW) v4) := begin_calls A2 4 exW v4 hw4 exW_small.1 exW_small.2 (Ht.out.kp k4 Hg.out) (Hg.out.kp k4)
  have hbr : beginR exW = (exL, 0) := by unfold beginR; rw [if_pos exW_ok, exL_eq]
  rw [hbr] at hbg
  have hbg : Calls Tryd.prog 17 #[.slice A2 4 4] v4 fun e w' => ∃ A c, e = .returned (.tuple #[.slice A 4 c, .int .i64 0]) ∧ SlAt pCel (Old w') w' A c exL ∧ Below v4.heap.size v4 w' := hbg
  have Hbg := Lib.hid hbg; clear hbg
  have Hw4 := Lib.hid hw4; clear hw4
  dsimp only [alR2, alB, Tryd.f33]
  go_wp2_with (go_at_call 17; refine Hbg.out.mono ?_; rintro e w4 ⟨L, ll, rfl, hL4, hb4⟩)
  have hL4 : SlAt pCel (Old w4) w4 L ll exL := hL4
  have hw5 := Hw4.out.kp eqv_mod (Kp.below hb4)
  have k5 := k4.trans (Kp.below hb4)
  clear hb4 k4
  have Hw5 := Lib.hid hw5; clear hw5
  have HL4 := Lib.hid hL4; clear hL4
  refine HX.out.seq (HX.out.wp ctxR rfl bA_fn aokR3 fun τ d => ?_)
  have k6 : Kp v (Go.Proofs.YtlipmagkplbkdaaDoor.at2 w4 τ d) := k5.trans (Kp.at2 _ _ _)
  have hw6 := Hw5.out.kp eqv_mod (Kp.at2 w4 τ d)
  have hL6 := HL4.out.kp eqv_cel (Kp.at2 w4 τ d)
  generalize Go.Proofs.YtlipmagkplbkdaaDoor.at2 w4 τ d = v6 at k6 hw6 hL6 ⊢
  clear k5
  have hgv : Calls Tryd.prog 35 #[] v6 fun e w' => ∃ A c, e = .returned (.slice A 1 c) ∧ Own pRul 60 v6.heap.size (v6.heap.size ≤ ·) w' (.slice A 1 c) exRs ∧ Below v6.heap.size v6 w' := given9_calls v6
  have hce := fun w => cell9_calls ⟨#[50]⟩ 65 w
  have hone := fun w7 w8 A c (h7 : Kp v6 w7) (h8 : Kp w7 w8) (hr : SlAt pRul (Old w7) w7 A c exRs) => (show Calls Tryd.prog 27 #[.slice A 1 c, .int .i64 5, .agg #[.string ⟨#[50]⟩, .int .u8 65, .slice none 0 0]] w8 (CelsPost (oneR exRs 5 (cellN p2 65)) w8) from
    one_calls A c exRs 5 (cellN p2 65) none 0 w8 (hr.kp eqv_rul h8) sl_none (fits_u8 (by decide)) (fits_i64 (by decide)) exRs_small (by decide +kernel) (Ht.out.kp (k6.trans (h7.trans h8)) Hg.out) (Hg.out.kp (k6.trans (h7.trans h8))))
  rw [exOne] at hone
  have hone : ∀ w7 w8 A c, Kp v6 w7 → Kp w7 w8 → SlAt pRul (Old w7) w7 A c exRs → Calls Tryd.prog 27 #[.slice A 1 c, .int .i64 5, .agg #[.string ⟨#[50]⟩, .int .u8 65, .slice none 0 0]] w8 fun e w' => ∃ A c, e = .returned (.tuple #[.slice A 2 c, .int .i64 0]) ∧ SlAt pCel (fun q => w8.heap.size ≤ q ∧ q < w'.heap.size) w' A c exBC ∧ Below w8.heap.size w8 w' := hone
  have Hw6 := Lib.hid hw6; clear hw6
  have HL6 := Lib.hid hL6; clear hL6
  have Hgv := Lib.hid hgv; clear hgv
  have Hce := Lib.hid hce; clear hce
  have Hone := Lib.hid hone; clear hone
  dsimp only [alR3, alB, Tryd.f33]
  go_wp2_with (first
    | (go_at_call 35; (refine Hgv.out.mono ?_; rintro e w7 ⟨G, gc, rfl, hG7, hb7⟩; have hG7' := sl9 (own_fresh' hG7) (fun k hk => hk.2); have kk7 := Kp.below hb7))
    | (go_at_call 36; refine (Hce.out _).mono ?_; rintro e w8 ⟨rfl, hb8⟩; have kk8 := Kp.below hb8)
    | (go_at_call 27; refine (Hone.out _ _ _ _ kk7 kk8 hG7').mono ?_; rintro e w9 ⟨O, ol, rfl, hO9, hb9⟩))
  have hO9 : SlAt pCel (Old w9) w9 O ol exBC := sl9 hO9 (fun k hk => hk.2)
  have k79 := (kk7.trans kk8).trans (Kp.below hb9)
  have k9 := k6.trans k79
  have hw9 := Hw6.out.kp eqv_mod k79
  have hL9 := HL6.out.kp eqv_cel k79
  clear k79 kk7 kk8 hG7' hG7 hb7 hb8 hb9 k6
  have HO9 := Lib.hid hO9; clear hO9
  have Hw9 := Lib.hid hw9; clear hw9
  have HL9 := Lib.hid hL9; clear hL9
  refine HX.out.seq (HX.out.wp ctxR rfl bA_fn aokR4 fun τ d => ?_)
  have k10 : Kp v (Go.Proofs.YtlipmagkplbkdaaDoor.at2 w9 τ d) := k9.trans (Kp.at2 _ _ _)
  have hw10 := Hw9.out.kp eqv_mod (Kp.at2 w9 τ d)
  have hL10 := HL9.out.kp eqv_cel (Kp.at2 w9 τ d)
  have hO10 := HO9.out.kp eqv_cel (Kp.at2 w9 τ d)
  generalize Go.Proofs.YtlipmagkplbkdaaDoor.at2 w9 τ d = v10 at k10 hw10 hL10 hO10 ⊢
  clear k9
  have hgv : Calls Tryd.prog 35 #[] v10 fun e w' => ∃ A c, e = .returned (.slice A 1 c) ∧ Own pRul 60 v10.heap.size (v10.heap.size ≤ ·) w' (.slice A 1 c) exRs ∧ Below v10.heap.size v10 w' := given9_calls v10
  have hap : ∀ (w1 : World) (A : Option Addr) (c : Nat), v10.heap.size ≤ w1.heap.size → Own pRul 60 v10.heap.size (v10.heap.size ≤ ·) w1 (.slice A 1 c) exRs →
      ∃ w3, w3 = (w1.alloc (.cells #[.int .u8 68, .slice none 0 0] 72)).alloc (.cells #[.int .u8 65, .int .i64 0, .int .u8 0, .int .u8 0, .slice none 0 0, .int .i64 1, .slice (some ⟨w1.heap.size, 0, none⟩) 1 1] 60) ∧
        Own pRul 60 v10.heap.size (v10.heap.size ≤ ·) w3 (.slice A 1 c) exRs ∧ SlAt pRul (fun k => w1.heap.size ≤ k ∧ k < w3.heap.size) w3 (some ⟨w1.heap.size + 1, 0, none⟩) 1 [ruleD] ∧ Below v10.heap.size w1 w3 ∧
        (∀ k, (w1.heap.size ≤ k ∧ k < w3.heap.size) → v10.heap.size ≤ k ∧ k < w3.heap.size ∧ some k ≠ (Value.slice A 1 c).ownBlock) ∧ v10.heap.size ≤ w3.heap.size := by
    intro w1 A c hz hown
    refine ⟨_, rfl, (hown.alloc _).alloc _, ?_, ((Below.refl _ _).alloc hz _).alloc (by simp; omega) _, ?_, by simp; omega⟩
    · have hs1 : SlAt pShp (fun k => w1.heap.size ≤ k ∧ k < w1.heap.size + 1) (w1.alloc (.cells #[.int .u8 68, .slice none 0 0] 72)) (some ⟨w1.heap.size, 0, none⟩) 1 [⟨68, []⟩] :=
        sl_lit (E := pShp) (Blk.new w1 _ _) (xs := [⟨68, []⟩]) ⟨[_, _], [], rfl, shp_R9 (fits_u8 (by decide)), rfl⟩ ⟨Nat.le_refl _, by omega⟩ (by decide) rfl
      have hk2 : ∀ k, (w1.heap.size ≤ k ∧ k < w1.heap.size + 1) → ((w1.alloc (.cells #[.int .u8 68, .slice none 0 0] 72)).alloc (.cells #[.int .u8 65, .int .i64 0, .int .u8 0, .int .u8 0, .slice none 0 0, .int .i64 1, .slice (some ⟨w1.heap.size, 0, none⟩) 1 1] 60)).heap[k]? = (w1.alloc (.cells #[.int .u8 68, .slice none 0 0] 72)).heap[k]? := fun k hk => Below.heap_alloc _ _ _ (by simp; omega)
      have hz1 : (w1.alloc (.cells #[.int .u8 68, .slice none 0 0] 72)).heap.size = w1.heap.size + 1 := by simp
      have hB := Blk.new (w1.alloc (.cells #[.int .u8 68, .slice none 0 0] 72)) 60 #[.int .u8 65, .int .i64 0, .int .u8 0, .int .u8 0, .slice none 0 0, .int .i64 1, .slice (some ⟨w1.heap.size, 0, none⟩) 1 1]
      rw [hz1] at hB
      refine sl_lit (E := pRul) hB (xs := [ruleD]) ⟨[_, _, _, _, _, _, _], [], rfl, rul_R9 ((hs1.keep hk2).wide fun k hk => ⟨hk.1, by simp; omega⟩) rfl, rfl⟩ ⟨by omega, by simp⟩ (by decide) rfl
    · intro k hk
      refine ⟨by omega, hk.2, fun e => ?_⟩
      have := (hown.lt k e.symm).2
      omega
  have hrm : Room 2 := room_of (by omega)
  have hrl : (exRs ++ [ruleD]).length = 2 := rfl
  have Hw10 := Lib.hid hw10; clear hw10
  have HL10 := Lib.hid hL10; clear hL10
  have HO10 := Lib.hid hO10; clear hO10
  have Hgv := Lib.hid hgv; clear hgv
  have Hap := Lib.hid hap; clear hap
  have Hrm := Lib.hid hrm; clear hrm
  have Hrl := Lib.hid hrl; clear hrl
  dsimp only [alR4, alB, Tryd.f33]
  go_wp2_with (first
    | (go_at_call 35; refine Hgv.out.mono ?_; rintro e w1 ⟨G, gc, rfl, hG1, hb1⟩; obtain ⟨w3, hw3, hG3, hD3, hb3, hF3, hz3⟩ := Hap.out w1 G gc hb1.size hG1)
    | (at_builtin; (rw [← hw3]; refine wpList_catG (E := pRul) (xs := exRs) (v := .slice G 1 gc) (base := v10.heap.size) (G := (v10.heap.size ≤ ·)) 22 60 (.agg #[.int .u8 0, .int .i64 0, .int .u8 0, .int .u8 0, .slice none 0 0, .int .i64 0, .slice none 0 0]) 80 (.tmp 30) (.tmp 34) rfl rfl Tryd.underlying22 (by kernel_rfl) rfl (by decide) rfl hG3 (some ⟨w1.heap.size + 1, 0, none⟩) 1 [ruleD] rfl _ hD3 hF3 2 Hrl.out Hrm.out (by decide) hz3 ?_; intro T tl w5 hT5 hg5)))
  have hT5 : SlAt pRul (Old w5) w5 T tl exTwo := sl9 (own_fresh' hT5.out) (fun k hk => hk.2)
  have k105 : Kp v10 w5 := Kp.below ((hb1.trans hb3).trans hg5.out.bel)
  have k11 := k10.trans k105
  have hw11 := Hw10.out.kp eqv_mod k105
  have hL11 := HL10.out.kp eqv_cel k105
  have hO11 := HO10.out.kp eqv_cel k105
  clear hb1 hb3 hg5 hF3 hD3 hG3 hw3 hz3 hG1 k10 k105
  have HT5 := Lib.hid hT5; clear hT5
  have Hw11 := Lib.hid hw11; clear hw11
  have HL11 := Lib.hid hL11; clear hL11
  have HO11 := Lib.hid hO11; clear hO11
  refine HX.out.seq (HX.out.wp ctxR rfl bA_fn aokR5 fun τ d => ?_)
  have k12 : Kp v (Go.Proofs.YtlipmagkplbkdaaDoor.at2 w5 τ d) := k11.trans (Kp.at2 _ _ _)
  have hw12 := Hw11.out.kp eqv_mod (Kp.at2 w5 τ d)
  have hL12 := HL11.out.kp eqv_cel (Kp.at2 w5 τ d)
  have hO12 := HO11.out.kp eqv_cel (Kp.at2 w5 τ d)
  have hT12 := HT5.out.kp eqv_rul (Kp.at2 w5 τ d)
  generalize Go.Proofs.YtlipmagkplbkdaaDoor.at2 w5 τ d = v12 at k12 hw12 hL12 hO12 hT12 ⊢
  clear k11
  have hce := fun w => cell9_calls ⟨#[50]⟩ 65 w
  have hone := fun w8 (h8 : Kp v12 w8) => (show Calls Tryd.prog 27 #[.slice T 2 tl, .int .i64 5, .agg #[.string ⟨#[50]⟩, .int .u8 65, .slice none 0 0]] w8 (CelsPost (oneR exTwo 5 (cellN p2 65)) w8) from
    one_calls T tl exTwo 5 (cellN p2 65) none 0 w8 (hT12.kp eqv_rul h8) sl_none (fits_u8 (by decide)) (fits_i64 (by decide)) exTwo_small (by decide +kernel) (Ht.out.kp (k12.trans h8) Hg.out) (Hg.out.kp (k12.trans h8)))
  rw [h1] at hone
  have hone : ∀ w8, Kp v12 w8 → Calls Tryd.prog 27 #[.slice T 2 tl, .int .i64 5, .agg #[.string ⟨#[50]⟩, .int .u8 65, .slice none 0 0]] w8 fun e w' => ∃ A c, e = .returned (.tuple #[.slice A cc.length c, .int .i64 0]) ∧ SlAt pCel (fun q => w8.heap.size ≤ q ∧ q < w'.heap.size) w' A c cc ∧ Below w8.heap.size w8 w' := hone
  have Hce := Lib.hid hce; clear hce
  have Hone := Lib.hid hone; clear hone
  have Hw12 := Lib.hid hw12; clear hw12
  have HL12 := Lib.hid hL12; clear hL12
  have HO12 := Lib.hid hO12; clear hO12
  have HT12 := Lib.hid hT12; clear hT12
  dsimp only [alR5, alB, Tryd.f33]
  go_wp2_with (first
    | (go_at_call 36; refine (Hce.out _).mono ?_; rintro e w13 ⟨rfl, hb13⟩; have kk13 := Kp.below hb13)
    | (go_at_call 27; refine (Hone.out _ kk13).mono ?_; rintro e w14 ⟨C, cl, rfl, hC14, hb14⟩))
  have k14 := kk13.trans (Kp.below hb14)
  exact Hl.out _ _ A2 L O T C 4 ll ol tl cl ⟨rfl, rfl, rfl, rfl, rfl, rfl, rfl, rfl, rfl, rfl, rfl⟩ (Hw12.out.kp eqv_mod k14) (HL12.out.kp eqv_cel k14) (HO12.out.kp eqv_cel k14) (HT12.out.kp eqv_rul k14) (sl9 hC14 (fun k hk => hk.2)) (k12.trans k14)
end
end Go.Proofs.YtlipmagkplbkdaaDoor

/-! N5 -/
namespace Go.Proofs.YtlipmagkplbkdaaDoor
open Go Go.Conc Go.RowKit
set_option linter.unusedVariables false
set_option linter.unusedSimpArgs false
set_option maxRecDepth 100000 in
theorem act_lit109 {a : Act} (hd : a.defers = []) (hz : a.tmps.size = 109) : a = { tmps := #[a.tmps.getD 0 undef, a.tmps.getD 1 undef, a.tmps.getD 2 undef, a.tmps.getD 3 undef, a.tmps.getD 4 undef, a.tmps.getD 5 undef, a.tmps.getD 6 undef, a.tmps.getD 7 undef, a.tmps.getD 8 undef, a.tmps.getD 9 undef, a.tmps.getD 10 undef, a.tmps.getD 11 undef, a.tmps.getD 12 undef, a.tmps.getD 13 undef, a.tmps.getD 14 undef, a.tmps.getD 15 undef, a.tmps.getD 16 undef, a.tmps.getD 17 undef, a.tmps.getD 18 undef, a.tmps.getD 19 undef, a.tmps.getD 20 undef, a.tmps.getD 21 undef, a.tmps.getD 22 undef, a.tmps.getD 23 undef, a.tmps.getD 24 undef, a.tmps.getD 25 undef, a.tmps.getD 26 undef, a.tmps.getD 27 undef, a.tmps.getD 28 undef, a.tmps.getD 29 undef, a.tmps.getD 30 undef, a.tmps.getD 31 undef, a.tmps.getD 32 undef, a.tmps.getD 33 undef, a.tmps.getD 34 undef, a.tmps.getD 35 undef, a.tmps.getD 36 undef, a.tmps.getD 37 undef, a.tmps.getD 38 undef, a.tmps.getD 39 undef, a.tmps.getD 40 undef, a.tmps.getD 41 undef, a.tmps.getD 42 undef, a.tmps.getD 43 undef, a.tmps.getD 44 undef, a.tmps.getD 45 undef, a.tmps.getD 46 undef, a.tmps.getD 47 undef, a.tmps.getD 48 undef, a.tmps.getD 49 undef, a.tmps.getD 50 undef, a.tmps.getD 51 undef, a.tmps.getD 52 undef, a.tmps.getD 53 undef, a.tmps.getD 54 undef, a.tmps.getD 55 undef, a.tmps.getD 56 undef, a.tmps.getD 57 undef, a.tmps.getD 58 undef, a.tmps.getD 59 undef, a.tmps.getD 60 undef, a.tmps.getD 61 undef, a.tmps.getD 62 undef, a.tmps.getD 63 undef, a.tmps.getD 64 undef, a.tmps.getD 65 undef, a.tmps.getD 66 undef, a.tmps.getD 67 undef, a.tmps.getD 68 undef, a.tmps.getD 69 undef, a.tmps.getD 70 undef, a.tmps.getD 71 undef, a.tmps.getD 72 undef, a.tmps.getD 73 undef, a.tmps.getD 74 undef, a.tmps.getD 75 undef, a.tmps.getD 76 undef, a.tmps.getD 77 undef, a.tmps.getD 78 undef, a.tmps.getD 79 undef, a.tmps.getD 80 undef, a.tmps.getD 81 undef, a.tmps.getD 82 undef, a.tmps.getD 83 undef, a.tmps.getD 84 undef, a.tmps.getD 85 undef, a.tmps.getD 86 undef, a.tmps.getD 87 undef, a.tmps.getD 88 undef, a.tmps.getD 89 undef, a.tmps.getD 90 undef, a.tmps.getD 91 undef, a.tmps.getD 92 undef, a.tmps.getD 93 undef, a.tmps.getD 94 undef, a.tmps.getD 95 undef, a.tmps.getD 96 undef, a.tmps.getD 97 undef, a.tmps.getD 98 undef, a.tmps.getD 99 undef, a.tmps.getD 100 undef, a.tmps.getD 101 undef, a.tmps.getD 102 undef, a.tmps.getD 103 undef, a.tmps.getD 104 undef, a.tmps.getD 105 undef, a.tmps.getD 106 undef, a.tmps.getD 107 undef, a.tmps.getD 108 undef], defers := [] } := by
  obtain ⟨tm, df⟩ := a
  obtain rfl : df = [] := hd
  have hz : tm.size = 109 := hz
  refine congrArg (fun t => ({ tmps := t, defers := [] } : Act)) ?_
  apply Array.ext
  · rw [hz]; rfl
  · intro i h1 h2
    rw [hz] at h1
    rw [show tm[i] = tm.getD i undef by rw [Array.getD_eq_getD_getElem?, Array.getElem?_eq_getElem (by omega)]; rfl]
    match i, h1 with
    | 0, _ => rfl
    | 1, _ => rfl
    | 2, _ => rfl
    | 3, _ => rfl
    | 4, _ => rfl
    | 5, _ => rfl
    | 6, _ => rfl
    | 7, _ => rfl
    | 8, _ => rfl
    | 9, _ => rfl
    | 10, _ => rfl
    | 11, _ => rfl
    | 12, _ => rfl
    | 13, _ => rfl
    | 14, _ => rfl
    | 15, _ => rfl
    | 16, _ => rfl
    | 17, _ => rfl
    | 18, _ => rfl
    | 19, _ => rfl
    | 20, _ => rfl
    | 21, _ => rfl
    | 22, _ => rfl
    | 23, _ => rfl
    | 24, _ => rfl
    | 25, _ => rfl
    | 26, _ => rfl
    | 27, _ => rfl
    | 28, _ => rfl
    | 29, _ => rfl
    | 30, _ => rfl
    | 31, _ => rfl
    | 32, _ => rfl
    | 33, _ => rfl
    | 34, _ => rfl
    | 35, _ => rfl
    | 36, _ => rfl
    | 37, _ => rfl
    | 38, _ => rfl
    | 39, _ => rfl
    | 40, _ => rfl
    | 41, _ => rfl
    | 42, _ => rfl
    | 43, _ => rfl
    | 44, _ => rfl
    | 45, _ => rfl
    | 46, _ => rfl
    | 47, _ => rfl
    | 48, _ => rfl
    | 49, _ => rfl
    | 50, _ => rfl
    | 51, _ => rfl
    | 52, _ => rfl
    | 53, _ => rfl
    | 54, _ => rfl
    | 55, _ => rfl
    | 56, _ => rfl
    | 57, _ => rfl
    | 58, _ => rfl
    | 59, _ => rfl
    | 60, _ => rfl
    | 61, _ => rfl
    | 62, _ => rfl
    | 63, _ => rfl
    | 64, _ => rfl
    | 65, _ => rfl
    | 66, _ => rfl
    | 67, _ => rfl
    | 68, _ => rfl
    | 69, _ => rfl
    | 70, _ => rfl
    | 71, _ => rfl
    | 72, _ => rfl
    | 73, _ => rfl
    | 74, _ => rfl
    | 75, _ => rfl
    | 76, _ => rfl
    | 77, _ => rfl
    | 78, _ => rfl
    | 79, _ => rfl
    | 80, _ => rfl
    | 81, _ => rfl
    | 82, _ => rfl
    | 83, _ => rfl
    | 84, _ => rfl
    | 85, _ => rfl
    | 86, _ => rfl
    | 87, _ => rfl
    | 88, _ => rfl
    | 89, _ => rfl
    | 90, _ => rfl
    | 91, _ => rfl
    | 92, _ => rfl
    | 93, _ => rfl
    | 94, _ => rfl
    | 95, _ => rfl
    | 96, _ => rfl
    | 97, _ => rfl
    | 98, _ => rfl
    | 99, _ => rfl
    | 100, _ => rfl
    | 101, _ => rfl
    | 102, _ => rfl
    | 103, _ => rfl
    | 104, _ => rfl
    | 105, _ => rfl
    | 106, _ => rfl
    | 107, _ => rfl
    | 108, _ => rfl
    | j + 109, h => exact absurd h (by omega)
noncomputable def alR7 : Code := match alT with | .seq a _ => a | _ => .skip
noncomputable def alR8 : Code := match alT with | .seq _ (.seq a _) => a | _ => .skip
noncomputable def alE : Code := match alT with | .seq _ (.seq _ a) => a | _ => .skip
theorem alT_eq : alT = .seq alR7 (.seq alR8 alE) := by kernel_rfl
theorem aokR7 : okC Tryd.prog gR sR alR7 = true := by kernel_rfl
theorem aokR8 : okC Tryd.prog gR sR alR8 = true := by kernel_rfl
theorem aokE : okC Tryd.prog gR sR alE = true := by kernel_rfl
section
variable {F : Value → Prop} {cs : List Frame}
set_option maxRecDepth 100000 in
set_option maxHeartbeats 4000000 in
theorem al_run {ch : Option Nat} {v v0 : World} {cc dd : List Cel} {a : Act} {W2 L O T C : Option Addr} {wl ll ol tl cl : Nat} (h : AlS W2 L O T C wl ll ol tl cl cc.length a) (hw : SlAt pMod (Old v) v W2 wl exW) (hL : SlAt pCel (Old v) v L ll exL) (hO : SlAt pCel (Old v) v O ol exBC) (hT : SlAt pRul (Old v) v T tl exTwo) (hC : SlAt pCel (Old v) v C cl cc)
    (hdd : pRun9 exTwo 5 exW 1 = (dd, 0)) (ht : TabAt v) (hg : GAt v) (k0 : Kp v0 v)
    (hl : ∀ ch a v' D dl, a.tmps.size = 109 → a.defers = [] → slot a 0 (.bool false) → slot a 2 (.slice L 4 ll) → slot a 3 (.int .i64 0) → slot a 4 (.slice O 2 ol) → slot a 5 (.int .i64 0) → slot a 7 (.slice C cc.length cl) → slot a 8 (.int .i64 0) → slot a 9 (.slice D dd.length dl) → slot a 10 (.int .i64 0) →
      SlAt pCel (Old v') v' L ll exL → SlAt pCel (Old v') v' O ol exBC → SlAt pCel (Old v') v' C cl cc → SlAt pCel (Old v') v' D dl dd → Kp v0 v' → MS Tryd.prog SR gR sR F [] ch (bA.at a [.code alT]) cs v') :
    MS Tryd.prog SR gR sR F [] ch (bA.at a [.code (.seq (.region 6 alO6 false) alT)]) cs v := by
  have hXX : ∀ ch, Walk Tryd.prog SR gR sR (MS Tryd.prog SR gR sR F [] ch) := fun ch => MS.walk ctxR
  have hX := hXX ch
  obtain ⟨hz, hd, s0, s1, s2, s3, s4, s5, s6, s7, s8⟩ := h
  refine hX.seq (hX.region ?_)
  rw [alz6]
  refine hX.val (v' := v) (some 43) (.slice T 2 tl) (show alO6[0]? = some _ from rfl) (by kernel_rfl) rfl rfl (fun τ d => run_moveX _ (.tmp 6) (.inl rfl) s6) ?_
  have hd : (a.put (some 43) (.slice T 2 tl)).defers = [] := hd
  have s0 := slot_ne (d := 43) (x := .slice T 2 tl) s0 (by decide)
  have s1 := slot_ne (d := 43) (x := .slice T 2 tl) s1 (by decide)
  have s2 := slot_ne (d := 43) (x := .slice T 2 tl) s2 (by decide)
  have s3 := slot_ne (d := 43) (x := .slice T 2 tl) s3 (by decide)
  have s4 := slot_ne (d := 43) (x := .slice T 2 tl) s4 (by decide)
  have s5 := slot_ne (d := 43) (x := .slice T 2 tl) s5 (by decide)
  have s6 := slot_ne (d := 43) (x := .slice T 2 tl) s6 (by decide)
  have s7 := slot_ne (d := 43) (x := .slice T 2 tl) s7 (by decide)
  have s8 := slot_ne (d := 43) (x := .slice T 2 tl) s8 (by decide)
  have s43 := slot_same (a := a) (d := 43) (x := .slice T 2 tl) (by rw [hz]; decide)
  have hz : (a.put (some 43) (.slice T 2 tl)).tmps.size = 109 := size_put hz
  generalize (a.put (some 43) (.slice T 2 tl)) = ax1 at hz hd s0 s1 s2 s3 s4 s5 s6 s7 s8 s43
  refine hX.val (v' := v) (some 44) (.slice W2 4 wl) (show alO6[1]? = some _ from rfl) (by kernel_rfl) rfl rfl (fun τ d => run_moveX _ (.tmp 1) (.inl rfl) s1) ?_
  have hd : (ax1.put (some 44) (.slice W2 4 wl)).defers = [] := hd
  have s0 := slot_ne (d := 44) (x := .slice W2 4 wl) s0 (by decide)
  have s1 := slot_ne (d := 44) (x := .slice W2 4 wl) s1 (by decide)
  have s2 := slot_ne (d := 44) (x := .slice W2 4 wl) s2 (by decide)
  have s3 := slot_ne (d := 44) (x := .slice W2 4 wl) s3 (by decide)
  have s4 := slot_ne (d := 44) (x := .slice W2 4 wl) s4 (by decide)
  have s5 := slot_ne (d := 44) (x := .slice W2 4 wl) s5 (by decide)
  clear s6
  have s7 := slot_ne (d := 44) (x := .slice W2 4 wl) s7 (by decide)
  have s8 := slot_ne (d := 44) (x := .slice W2 4 wl) s8 (by decide)
  have s43 := slot_ne (d := 44) (x := .slice W2 4 wl) s43 (by decide)
  have s44 := slot_same (a := ax1) (d := 44) (x := .slice W2 4 wl) (by rw [hz]; decide)
  have hz : (ax1.put (some 44) (.slice W2 4 wl)).tmps.size = 109 := size_put hz
  generalize (ax1.put (some 44) (.slice W2 4 wl)) = ax2 at hz hd s0 s1 s2 s3 s4 s5 s7 s8 s43 s44
  refine MS.enter ctxR (show alO6[2]? = some _ from rfl) rfl rfl (by kernel_rfl) ⟨_, _, Tryd.func13, runBody, by kernel_rfl⟩ ?_
  have hargs : (#[.tmp 43, .const (.int .i64 5), .tmp 44, .const (.int .i64 1)] : Array Operand).map ax2.eval = #[.slice T 2 tl, .int .i64 5, .slice W2 4 wl, .int .i64 1] := by
    simp only [List.map_toArray, List.map_cons, List.map_nil]
    rw [show ax2.eval (.tmp 43) = _ from s43, show ax2.eval (.tmp 44) = _ from s44]
    rfl
  show MS Tryd.prog SR gR sR F [] ch (Frame.enter Tryd.prog 13 ((#[.tmp 43, .const (.int .i64 5), .tmp 44, .const (.int .i64 1)] : Array Operand).map ax2.eval) .normal) _ v
  rw [hargs]
  refine run_ms (rs := exTwo) (ms := exW) hT hw exTwo_small (fits_i64 (by decide)) (fits_i64 (by decide)) exW_small.1 exW_small.2 ht hg ?_
  rw [hdd]
  intro ch a' v' todo D dl hd' q8 q9 hsl kk
  have hX := hXX ch
  refine hX.back' (x := .tuple #[.slice D dd.length dl, .int .i64 0]) rfl rfl Tryd.func13 (show alO6[2]? = some _ from rfl) (fun τ d => ?_) ?_
  · refine (results_two (p := 8) (q := 9) rfl _).trans ?_
    show Result.ok (Value.tuple #[a'.tmps.getD 8 undef, a'.tmps.getD 9 undef]) _ = _
    rw [show (a'.tmps.getD 8 undef) = _ from q8, show (a'.tmps.getD 9 undef) = _ from q9]
  have hsl : SlAt pCel (Old v') v' D dl dd := hsl
  show MS Tryd.prog SR gR sR F [] ch (bA.at (ax2.put (some 45) (.tuple #[.slice D dd.length dl, .int .i64 0])) _) cs v'
  have hd : (ax2.put (some 45) (.tuple #[.slice D dd.length dl, .int .i64 0])).defers = [] := hd
  have s0 := slot_ne (d := 45) (x := .tuple #[.slice D dd.length dl, .int .i64 0]) s0 (by decide)
  clear s1
  have s2 := slot_ne (d := 45) (x := .tuple #[.slice D dd.length dl, .int .i64 0]) s2 (by decide)
  have s3 := slot_ne (d := 45) (x := .tuple #[.slice D dd.length dl, .int .i64 0]) s3 (by decide)
  have s4 := slot_ne (d := 45) (x := .tuple #[.slice D dd.length dl, .int .i64 0]) s4 (by decide)
  have s5 := slot_ne (d := 45) (x := .tuple #[.slice D dd.length dl, .int .i64 0]) s5 (by decide)
  have s7 := slot_ne (d := 45) (x := .tuple #[.slice D dd.length dl, .int .i64 0]) s7 (by decide)
  have s8 := slot_ne (d := 45) (x := .tuple #[.slice D dd.length dl, .int .i64 0]) s8 (by decide)
  clear s43
  clear s44
  have s45 := slot_same (a := ax2) (d := 45) (x := .tuple #[.slice D dd.length dl, .int .i64 0]) (by rw [hz]; decide)
  have hz : (ax2.put (some 45) (.tuple #[.slice D dd.length dl, .int .i64 0])).tmps.size = 109 := size_put hz
  generalize (ax2.put (some 45) (.tuple #[.slice D dd.length dl, .int .i64 0])) = ax3 at hz hd s0 s2 s3 s4 s5 s7 s8 s45
  refine hX.val (v' := v') (some 42) (.tuple #[.slice D dd.length dl, .int .i64 0]) (show alO6[3]? = some _ from rfl) (by kernel_rfl) rfl rfl (fun τ d => run_moveX _ (.tmp 45) (.inl rfl) s45) ?_
  have hd : (ax3.put (some 42) (.tuple #[.slice D dd.length dl, .int .i64 0])).defers = [] := hd
  have s0 := slot_ne (d := 42) (x := .tuple #[.slice D dd.length dl, .int .i64 0]) s0 (by decide)
  have s2 := slot_ne (d := 42) (x := .tuple #[.slice D dd.length dl, .int .i64 0]) s2 (by decide)
  have s3 := slot_ne (d := 42) (x := .tuple #[.slice D dd.length dl, .int .i64 0]) s3 (by decide)
  have s4 := slot_ne (d := 42) (x := .tuple #[.slice D dd.length dl, .int .i64 0]) s4 (by decide)
  have s5 := slot_ne (d := 42) (x := .tuple #[.slice D dd.length dl, .int .i64 0]) s5 (by decide)
  have s7 := slot_ne (d := 42) (x := .tuple #[.slice D dd.length dl, .int .i64 0]) s7 (by decide)
  have s8 := slot_ne (d := 42) (x := .tuple #[.slice D dd.length dl, .int .i64 0]) s8 (by decide)
  clear s45
  have s42 := slot_same (a := ax3) (d := 42) (x := .tuple #[.slice D dd.length dl, .int .i64 0]) (by rw [hz]; decide)
  have hz : (ax3.put (some 42) (.tuple #[.slice D dd.length dl, .int .i64 0])).tmps.size = 109 := size_put hz
  generalize (ax3.put (some 42) (.tuple #[.slice D dd.length dl, .int .i64 0])) = ax4 at hz hd s0 s2 s3 s4 s5 s7 s8 s42
  refine hX.val (v' := v') (some 46) (.slice D dd.length dl) (show alO6[4]? = some _ from rfl) (by kernel_rfl) rfl rfl (fun τ d => run_extractX _ (.tmp 42) 0 rfl s42 rfl) ?_
  have hd : (ax4.put (some 46) (.slice D dd.length dl)).defers = [] := hd
  have s0 := slot_ne (d := 46) (x := .slice D dd.length dl) s0 (by decide)
  have s2 := slot_ne (d := 46) (x := .slice D dd.length dl) s2 (by decide)
  have s3 := slot_ne (d := 46) (x := .slice D dd.length dl) s3 (by decide)
  have s4 := slot_ne (d := 46) (x := .slice D dd.length dl) s4 (by decide)
  have s5 := slot_ne (d := 46) (x := .slice D dd.length dl) s5 (by decide)
  have s7 := slot_ne (d := 46) (x := .slice D dd.length dl) s7 (by decide)
  have s8 := slot_ne (d := 46) (x := .slice D dd.length dl) s8 (by decide)
  have s42 := slot_ne (d := 46) (x := .slice D dd.length dl) s42 (by decide)
  have s46 := slot_same (a := ax4) (d := 46) (x := .slice D dd.length dl) (by rw [hz]; decide)
  have hz : (ax4.put (some 46) (.slice D dd.length dl)).tmps.size = 109 := size_put hz
  generalize (ax4.put (some 46) (.slice D dd.length dl)) = ax5 at hz hd s0 s2 s3 s4 s5 s7 s8 s42 s46
  refine hX.val (v' := v') (some 47) (.int .i64 0) (show alO6[5]? = some _ from rfl) (by kernel_rfl) rfl rfl (fun τ d => run_extractX _ (.tmp 42) 1 rfl s42 rfl) ?_
  have hd : (ax5.put (some 47) (.int .i64 0)).defers = [] := hd
  have s0 := slot_ne (d := 47) (x := .int .i64 0) s0 (by decide)
  have s2 := slot_ne (d := 47) (x := .int .i64 0) s2 (by decide)
  have s3 := slot_ne (d := 47) (x := .int .i64 0) s3 (by decide)
  have s4 := slot_ne (d := 47) (x := .int .i64 0) s4 (by decide)
  have s5 := slot_ne (d := 47) (x := .int .i64 0) s5 (by decide)
  have s7 := slot_ne (d := 47) (x := .int .i64 0) s7 (by decide)
  have s8 := slot_ne (d := 47) (x := .int .i64 0) s8 (by decide)
  have s42 := slot_ne (d := 47) (x := .int .i64 0) s42 (by decide)
  have s46 := slot_ne (d := 47) (x := .int .i64 0) s46 (by decide)
  have s47 := slot_same (a := ax5) (d := 47) (x := .int .i64 0) (by rw [hz]; decide)
  have hz : (ax5.put (some 47) (.int .i64 0)).tmps.size = 109 := size_put hz
  generalize (ax5.put (some 47) (.int .i64 0)) = ax6 at hz hd s0 s2 s3 s4 s5 s7 s8 s42 s46 s47
  refine hX.val (v' := v') (some 9) (.slice D dd.length dl) (show alO6[6]? = some _ from rfl) (by kernel_rfl) rfl rfl (fun τ d => run_moveX _ (.tmp 46) (.inr rfl) s46) ?_
  have hd : (ax6.put (some 9) (.slice D dd.length dl)).defers = [] := hd
  have s0 := slot_ne (d := 9) (x := .slice D dd.length dl) s0 (by decide)
  have s2 := slot_ne (d := 9) (x := .slice D dd.length dl) s2 (by decide)
  have s3 := slot_ne (d := 9) (x := .slice D dd.length dl) s3 (by decide)
  have s4 := slot_ne (d := 9) (x := .slice D dd.length dl) s4 (by decide)
  have s5 := slot_ne (d := 9) (x := .slice D dd.length dl) s5 (by decide)
  have s7 := slot_ne (d := 9) (x := .slice D dd.length dl) s7 (by decide)
  have s8 := slot_ne (d := 9) (x := .slice D dd.length dl) s8 (by decide)
  clear s42
  clear s46
  have s47 := slot_ne (d := 9) (x := .slice D dd.length dl) s47 (by decide)
  have s9 := slot_same (a := ax6) (d := 9) (x := .slice D dd.length dl) (by rw [hz]; decide)
  have hz : (ax6.put (some 9) (.slice D dd.length dl)).tmps.size = 109 := size_put hz
  generalize (ax6.put (some 9) (.slice D dd.length dl)) = ax7 at hz hd s0 s2 s3 s4 s5 s7 s8 s47 s9
  refine hX.val (v' := v') (some 10) (.int .i64 0) (show alO6[7]? = some _ from rfl) (by kernel_rfl) rfl rfl (fun τ d => run_moveX _ (.tmp 47) (.inr rfl) s47) ?_
  have hd : (ax7.put (some 10) (.int .i64 0)).defers = [] := hd
  have s0 := slot_ne (d := 10) (x := .int .i64 0) s0 (by decide)
  have s2 := slot_ne (d := 10) (x := .int .i64 0) s2 (by decide)
  have s3 := slot_ne (d := 10) (x := .int .i64 0) s3 (by decide)
  have s4 := slot_ne (d := 10) (x := .int .i64 0) s4 (by decide)
  have s5 := slot_ne (d := 10) (x := .int .i64 0) s5 (by decide)
  have s7 := slot_ne (d := 10) (x := .int .i64 0) s7 (by decide)
  have s8 := slot_ne (d := 10) (x := .int .i64 0) s8 (by decide)
  clear s47
  have s9 := slot_ne (d := 10) (x := .int .i64 0) s9 (by decide)
  have s10 := slot_same (a := ax7) (d := 10) (x := .int .i64 0) (by rw [hz]; decide)
  have hz : (ax7.put (some 10) (.int .i64 0)).tmps.size = 109 := size_put hz
  generalize (ax7.put (some 10) (.int .i64 0)) = ax8 at hz hd s0 s2 s3 s4 s5 s7 s8 s9 s10
  refine hX.done ?_
  exact hl _ _ _ D dl hz hd s0 s2 s3 s4 s5 s7 s8 s9 s10 (hL.kp eqv_cel kk) (hO.kp eqv_cel kk) (hC.kp eqv_cel kk) hsl (k0.trans kk)
set_option maxRecDepth 100000 in
set_option maxHeartbeats 4000000 in
theorem al_tail {ch : Option Nat} {v v0 : World} {cc dd : List Cel} {a : Act} {L O C D : Option Addr} {ll ol cl dl : Nat} (hz : a.tmps.size = 109) (hd : a.defers = []) (s0 : slot a 0 (.bool false)) (s2 : slot a 2 (.slice L 4 ll)) (s3 : slot a 3 (.int .i64 0)) (s4 : slot a 4 (.slice O 2 ol)) (s5 : slot a 5 (.int .i64 0)) (s7 : slot a 7 (.slice C cc.length cl)) (s8 : slot a 8 (.int .i64 0)) (s9 : slot a 9 (.slice D dd.length dl)) (s10 : slot a 10 (.int .i64 0))
    (hL : SlAt pCel (Old v) v L ll exL) (hO : SlAt pCel (Old v) v O ol exBC) (hC : SlAt pCel (Old v) v C cl cc) (hD : SlAt pCel (Old v) v D dl dd)
    (h2 : cc = exBC ∨ cc = exD) (h3 : dd.length = 3 + cc.length) (h4 : (dd.drop 2).take cc.length = cc) (k0 : Kp v0 v) (hk : AlK F cs v0) :
    MS Tryd.prog SR gR sR F [] ch (bA.at a [.code alT]) cs v := by
  have hX : Walk Tryd.prog SR gR sR (MS Tryd.prog SR gR sR F [] ch) := MS.walk ctxR
  rw [alT_eq]
  rw [act_lit109 hd hz]
  rw [show (a.tmps.getD 0 undef) = _ from s0, show (a.tmps.getD 2 undef) = _ from s2, show (a.tmps.getD 3 undef) = _ from s3, show (a.tmps.getD 4 undef) = _ from s4, show (a.tmps.getD 5 undef) = _ from s5, show (a.tmps.getD 7 undef) = _ from s7, show (a.tmps.getD 8 undef) = _ from s8, show (a.tmps.getD 9 undef) = _ from s9, show (a.tmps.getD 10 undef) = _ from s10]
  generalize (a.tmps.getD 1 undef) = j1
  generalize (a.tmps.getD 6 undef) = j6
  generalize (a.tmps.getD 11 undef) = j11
  generalize (a.tmps.getD 12 undef) = j12
  generalize (a.tmps.getD 13 undef) = j13
  generalize (a.tmps.getD 14 undef) = j14
  generalize (a.tmps.getD 15 undef) = j15
  generalize (a.tmps.getD 16 undef) = j16
  generalize (a.tmps.getD 17 undef) = j17
  generalize (a.tmps.getD 18 undef) = j18
  generalize (a.tmps.getD 19 undef) = j19
  generalize (a.tmps.getD 20 undef) = j20
  generalize (a.tmps.getD 21 undef) = j21
  generalize (a.tmps.getD 22 undef) = j22
  generalize (a.tmps.getD 23 undef) = j23
  generalize (a.tmps.getD 24 undef) = j24
  generalize (a.tmps.getD 25 undef) = j25
  generalize (a.tmps.getD 26 undef) = j26
  generalize (a.tmps.getD 27 undef) = j27
  generalize (a.tmps.getD 28 undef) = j28
  generalize (a.tmps.getD 29 undef) = j29
  generalize (a.tmps.getD 30 undef) = j30
  generalize (a.tmps.getD 31 undef) = j31
  generalize (a.tmps.getD 32 undef) = j32
  generalize (a.tmps.getD 33 undef) = j33
  generalize (a.tmps.getD 34 undef) = j34
  generalize (a.tmps.getD 35 undef) = j35
  generalize (a.tmps.getD 36 undef) = j36
  generalize (a.tmps.getD 37 undef) = j37
  generalize (a.tmps.getD 38 undef) = j38
  generalize (a.tmps.getD 39 undef) = j39
  generalize (a.tmps.getD 40 undef) = j40
  generalize (a.tmps.getD 41 undef) = j41
  generalize (a.tmps.getD 42 undef) = j42
  generalize (a.tmps.getD 43 undef) = j43
  generalize (a.tmps.getD 44 undef) = j44
  generalize (a.tmps.getD 45 undef) = j45
  generalize (a.tmps.getD 46 undef) = j46
  generalize (a.tmps.getD 47 undef) = j47
  generalize (a.tmps.getD 48 undef) = j48
  generalize (a.tmps.getD 49 undef) = j49
  generalize (a.tmps.getD 50 undef) = j50
  generalize (a.tmps.getD 51 undef) = j51
  generalize (a.tmps.getD 52 undef) = j52
  generalize (a.tmps.getD 53 undef) = j53
  generalize (a.tmps.getD 54 undef) = j54
  generalize (a.tmps.getD 55 undef) = j55
  generalize (a.tmps.getD 56 undef) = j56
  generalize (a.tmps.getD 57 undef) = j57
  generalize (a.tmps.getD 58 undef) = j58
  generalize (a.tmps.getD 59 undef) = j59
  generalize (a.tmps.getD 60 undef) = j60
  generalize (a.tmps.getD 61 undef) = j61
  generalize (a.tmps.getD 62 undef) = j62
  generalize (a.tmps.getD 63 undef) = j63
  generalize (a.tmps.getD 64 undef) = j64
  generalize (a.tmps.getD 65 undef) = j65
  generalize (a.tmps.getD 66 undef) = j66
  generalize (a.tmps.getD 67 undef) = j67
  generalize (a.tmps.getD 68 undef) = j68
  generalize (a.tmps.getD 69 undef) = j69
  generalize (a.tmps.getD 70 undef) = j70
  generalize (a.tmps.getD 71 undef) = j71
  generalize (a.tmps.getD 72 undef) = j72
  generalize (a.tmps.getD 73 undef) = j73
  generalize (a.tmps.getD 74 undef) = j74
  generalize (a.tmps.getD 75 undef) = j75
  generalize (a.tmps.getD 76 undef) = j76
  generalize (a.tmps.getD 77 undef) = j77
  generalize (a.tmps.getD 78 undef) = j78
  generalize (a.tmps.getD 79 undef) = j79
  generalize (a.tmps.getD 80 undef) = j80
  generalize (a.tmps.getD 81 undef) = j81
  generalize (a.tmps.getD 82 undef) = j82
  generalize (a.tmps.getD 83 undef) = j83
  generalize (a.tmps.getD 84 undef) = j84
  generalize (a.tmps.getD 85 undef) = j85
  generalize (a.tmps.getD 86 undef) = j86
  generalize (a.tmps.getD 87 undef) = j87
  generalize (a.tmps.getD 88 undef) = j88
  generalize (a.tmps.getD 89 undef) = j89
  generalize (a.tmps.getD 90 undef) = j90
  generalize (a.tmps.getD 91 undef) = j91
  generalize (a.tmps.getD 92 undef) = j92
  generalize (a.tmps.getD 93 undef) = j93
  generalize (a.tmps.getD 94 undef) = j94
  generalize (a.tmps.getD 95 undef) = j95
  generalize (a.tmps.getD 96 undef) = j96
  generalize (a.tmps.getD 97 undef) = j97
  generalize (a.tmps.getD 98 undef) = j98
  generalize (a.tmps.getD 99 undef) = j99
  generalize (a.tmps.getD 100 undef) = j100
  generalize (a.tmps.getD 101 undef) = j101
  generalize (a.tmps.getD 102 undef) = j102
  generalize (a.tmps.getD 103 undef) = j103
  generalize (a.tmps.getD 104 undef) = j104
  generalize (a.tmps.getD 105 undef) = j105
  generalize (a.tmps.getD 106 undef) = j106
  generalize (a.tmps.getD 107 undef) = j107
  generalize (a.tmps.getD 108 undef) = j108
  obtain ⟨b, o, rfl⟩ : ∃ b o, D = some ⟨b, o, none⟩ := by
    obtain ⟨x, hx⟩ : ∃ x, dd[0]? = some x := ⟨dd[0]'(by omega), by simp⟩
    obtain ⟨b, o, _, h, _⟩ := hD.el 0 x hx
    exact ⟨b, o, h⟩
  have Hk := Lib.hid hk; clear hk
  have HX := Lib.hid hX; clear hX
  have H2 := Lib.hid h2; clear h2
  have H3 := Lib.hid h3; clear h3
  have H4 := Lib.hid h4; clear h4
  refine HX.out.seq (HX.out.wp ctxR rfl bA_fn aokR7 fun τ d => ?_)
  have k1 : Kp v0 (Go.Proofs.YtlipmagkplbkdaaDoor.at2 v τ d) := k0.trans (Kp.at2 _ _ _)
  have hL1 := hL.kp eqv_cel (Kp.at2 v τ d)
  have hO1 := hO.kp eqv_cel (Kp.at2 v τ d)
  have hC1 := hC.kp eqv_cel (Kp.at2 v τ d)
  have hD1 := hD.kp eqv_cel (Kp.at2 v τ d)
  generalize Go.Proofs.YtlipmagkplbkdaaDoor.at2 v τ d = v1 at k1 hL1 hO1 hC1 hD1 ⊢
  clear k0 hL hO hC hD
  have hce := fun p n w => cell9_calls p n w
  have Hce := Lib.hid hce; clear hce
  have HL1 := Lib.hid hL1; clear hL1
  have HO1 := Lib.hid hO1; clear hO1
  have HC1 := Lib.hid hC1; clear hC1
  have HD1 := Lib.hid hD1; clear hD1
  dsimp only [alR7, alT, alB, Tryd.f33]
  go_wp2_with (go_at_call 36; refine (Hce.out _ _ _).mono ?_; rintro e w2 ⟨rfl, hb2⟩; have kk2 := Kp.below hb2)
  rename_i wa ha ka wb hb kb
  have hB := lit9 (E := pCel) (w := wb) (t := 51) (cells := #[.string ⟨#[50, 47, 48]⟩, .int .u8 66, .slice none 0 0, .string ⟨#[50, 47, 49]⟩, .int .u8 67, .slice none 0 0]) (xs := exBC)
    ⟨[_, _, _], _, rfl, cel_R9 (by decide +kernel) (fits_u8 (by decide)), [_, _, _], [], rfl, cel_R9 (by decide +kernel) (fits_u8 (by decide)), rfl⟩ (by decide) (n := 2) rfl
  have hE := lit9 (E := pCel) (w := w2) (t := 51) (cells := #[.string ⟨#[50, 47, 48]⟩, .int .u8 68, .slice none 0 0]) (xs := exD)
    ⟨[_, _, _], [], rfl, cel_R9 (by decide +kernel) (fits_u8 (by decide)), rfl⟩ (by decide) (n := 1) rfl
  have kv2 := ((ka.trans kb).trans (Kp.alloc wb (.cells #[.string ⟨#[50, 47, 48]⟩, .int .u8 66, .slice none 0 0, .string ⟨#[50, 47, 49]⟩, .int .u8 67, .slice none 0 0] 51))).trans (kk2.trans (Kp.alloc w2 (.cells #[.string ⟨#[50, 47, 48]⟩, .int .u8 68, .slice none 0 0] 51)))
  have hB := hB.kp eqv_cel (kk2.trans (Kp.alloc w2 (.cells #[.string ⟨#[50, 47, 48]⟩, .int .u8 68, .slice none 0 0] 51)))
  obtain ⟨B, hBn⟩ : ∃ B, (some ⟨wb.heap.size, 0, none⟩ : Option Addr) = B := ⟨_, rfl⟩
  obtain ⟨E, hEn⟩ : ∃ B, (some ⟨w2.heap.size, 0, none⟩ : Option Addr) = B := ⟨_, rfl⟩
  rw [hBn] at hB ⊢
  rw [hEn] at hE ⊢
  generalize hv3 : w2.alloc (.cells #[.string ⟨#[50, 47, 48]⟩, .int .u8 68, .slice none 0 0] 51) = v3 at hB hE kv2 ⊢
  clear hv3 hBn hEn ka kb kk2 ha hb hb2
  have k3 := k1.trans kv2
  have hL3 := HL1.out.kp eqv_cel kv2
  have hO3 := HO1.out.kp eqv_cel kv2
  have hC3 := HC1.out.kp eqv_cel kv2
  have hD3 := HD1.out.kp eqv_cel kv2
  clear kv2 k1
  have HB := Lib.hid hB; clear hB
  have HE := Lib.hid hE; clear hE
  have HL3 := Lib.hid hL3; clear hL3
  have HO3 := Lib.hid hO3; clear hO3
  have HC3 := Lib.hid hC3; clear hC3
  have HD3 := Lib.hid hD3; clear hD3
  refine HX.out.seq (HX.out.wp ctxR rfl bA_fn aokR8 fun τ d => ?_)
  have k4 : Kp v0 (Go.Proofs.YtlipmagkplbkdaaDoor.at2 v3 τ d) := k3.trans (Kp.at2 _ _ _)
  have hL4 := HL3.out.kp eqv_cel (Kp.at2 v3 τ d)
  have hO4 := HO3.out.kp eqv_cel (Kp.at2 v3 τ d)
  have hC4 := HC3.out.kp eqv_cel (Kp.at2 v3 τ d)
  have hD4 := HD3.out.kp eqv_cel (Kp.at2 v3 τ d)
  have hB4 := HB.out.kp eqv_cel (Kp.at2 v3 τ d)
  have hE4 := HE.out.kp eqv_cel (Kp.at2 v3 τ d)
  generalize Go.Proofs.YtlipmagkplbkdaaDoor.at2 v3 τ d = v4 at k4 hL4 hO4 hC4 hD4 hB4 hE4 ⊢
  clear k3
  have hsm : ∀ (w : World) A, Kp v4 w → SlAt pCel (Old w) w A 4 exL → Calls Tryd.prog 15 #[.slice L 4 ll, .slice A 4 4] w (BoolPost (exL == exL) w) := fun w A hk hA => sameC_calls L A ll 4 exL exL w (hL4.kp eqv_cel hk) hA
  rw [show (exL == exL) = true from by simp] at hsm
  unfold BoolPost at hsm
  have hlt : ∀ w : World, SlAt pCel (Old (w.alloc (.cells #[.string ⟨#[48]⟩, .int .u8 70, .slice none 0 0, .string ⟨#[49]⟩, .int .u8 91, .slice none 0 0, .string ⟨#[50]⟩, .int .u8 65, .slice none 0 0, .string ⟨#[51]⟩, .int .u8 93, .slice none 0 0] 51)))
      (w.alloc (.cells #[.string ⟨#[48]⟩, .int .u8 70, .slice none 0 0, .string ⟨#[49]⟩, .int .u8 91, .slice none 0 0, .string ⟨#[50]⟩, .int .u8 65, .slice none 0 0, .string ⟨#[51]⟩, .int .u8 93, .slice none 0 0] 51)) (some ⟨w.heap.size, 0, none⟩) 4 exL := fun w => lit9 (E := pCel) (xs := exL)
    ⟨[_, _, _], _, rfl, cel_R9 (by decide +kernel) (fits_u8 (by decide)), [_, _, _], _, rfl, cel_R9 (by decide +kernel) (fits_u8 (by decide)), [_, _, _], _, rfl, cel_R9 (by decide +kernel) (fits_u8 (by decide)), [_, _, _], [], rfl, cel_R9 (by decide +kernel) (fits_u8 (by decide)), rfl⟩ (by decide) (n := 4) rfl
  have hkl : ∀ w : World, Kp w (w.alloc (.cells #[.string ⟨#[48]⟩, .int .u8 70, .slice none 0 0, .string ⟨#[49]⟩, .int .u8 91, .slice none 0 0, .string ⟨#[50]⟩, .int .u8 65, .slice none 0 0, .string ⟨#[51]⟩, .int .u8 93, .slice none 0 0] 51)) := fun w => Kp.alloc _ _
  have hk0 : Kp v4 v4 := Kp.refl _
  have Hsm := Lib.hid hsm; clear hsm
  have Hlt := Lib.hid hlt; clear hlt
  have Hkl := Lib.hid hkl; clear hkl
  have Hk0 := Lib.hid hk0; clear hk0
  have HL4 := Lib.hid hL4; clear hL4
  have HO4 := Lib.hid hO4; clear hO4
  have HC4 := Lib.hid hC4; clear hC4
  have HD4 := Lib.hid hD4; clear hD4
  have HB4 := Lib.hid hB4; clear hB4
  have HE4 := Lib.hid hE4; clear hE4
  dsimp only [alR8, alT, alB, Tryd.f33]
  go_wp2_with (first
    | (go_at_call 36; refine (Hce.out _ _ _).mono ?_; rintro e w5 ⟨rfl, hb5⟩; have Hk0 := Lib.hid (Hk0.out.trans (Kp.below hb5)); clear hb5)
    | (go_at_call 15; refine (Hsm.out _ _ (Hk0.out.trans (Hkl.out _)) (Hlt.out _)).mono ?_; rintro e w6 ⟨rfl, hb6⟩))
  have kv6 := (Hk0.out.trans (Hkl.out _)).trans (Kp.below hb6)
  have k6 := k4.trans kv6
  have hO6 := HO4.out.kp eqv_cel kv6
  have hC6 := HC4.out.kp eqv_cel kv6
  have hD6 := HD4.out.kp eqv_cel kv6
  have hB6 := HB4.out.kp eqv_cel kv6
  have hE6 := HE4.out.kp eqv_cel kv6
  clear kv6 hb6 k4
  have HO6 := Lib.hid hO6; clear hO6
  have HC6 := Lib.hid hC6; clear hC6
  have HD6 := Lib.hid hD6; clear hD6
  have HB6 := Lib.hid hB6; clear hB6
  have HE6 := Lib.hid hE6; clear hE6
  refine HX.out.wp ctxR rfl bA_fn aokE fun τ d => ?_
  have k7 : Kp v0 (Go.Proofs.YtlipmagkplbkdaaDoor.at2 w6 τ d) := k6.trans (Kp.at2 _ _ _)
  have hO7 := HO6.out.kp eqv_cel (Kp.at2 w6 τ d)
  have hC7 := HC6.out.kp eqv_cel (Kp.at2 w6 τ d)
  have hD7 := HD6.out.kp eqv_cel (Kp.at2 w6 τ d)
  have hB7 := HB6.out.kp eqv_cel (Kp.at2 w6 τ d)
  have hE7 := HE6.out.kp eqv_cel (Kp.at2 w6 τ d)
  generalize Go.Proofs.YtlipmagkplbkdaaDoor.at2 w6 τ d = v7 at k7 hO7 hC7 hD7 hB7 hE7 ⊢
  clear k6
  have hs1 : ∀ w, Kp v7 w → Calls Tryd.prog 15 #[.slice O 2 ol, .slice B 2 2] w (BoolPost (exBC == exBC) w) := fun w k => sameC_calls O B ol 2 exBC exBC w (hO7.kp eqv_cel k) (hB7.kp eqv_cel k)
  rw [show (exBC == exBC) = true from by simp] at hs1
  have hs2 := fun w (k : Kp v7 w) => sameC_calls C B cl 2 cc exBC w (hC7.kp eqv_cel k) (hB7.kp eqv_cel k)
  have hs3 := fun w (k : Kp v7 w) => sameC_calls C E cl 1 cc exD w (hC7.kp eqv_cel k) (hE7.kp eqv_cel k)
  have hdl := hD7.le
  have hs4 := fun w (k : Kp v7 w) => by
    have hcut := slAt_take9 (slAt_cut9 (hD7.kp eqv_cel k) (l := 2) (by have := H3.out; omega)) cc.length
    rw [if_neg (by have := H3.out; omega), Option.map_some, Addr.add_lit, H4.out] at hcut
    exact (show Calls Tryd.prog 15 #[.slice (some ⟨b, o + 6, none⟩) cc.length (dl - 2), .slice C cc.length cl] w (BoolPost (cc == cc) w) from sameC_calls _ C _ cl cc cc w hcut (hC7.kp eqv_cel k))
  rw [show (cc == cc) = true from by simp] at hs4
  unfold BoolPost at hs1 hs2 hs3 hs4
  dsimp only [alE, alT, alB, Tryd.f33]
  rcases H2.out with rfl | rfl
  · rw [show dd.length = 5 from H3.out] at hdl ⊢
    rw [show (exBC == exBC) = true from by simp] at hs2
    rw [show exBC.length = 2 from rfl] at hs2 hs4 ⊢
    have Hs1 := Lib.hid hs1; clear hs1
    have Hs2 := Lib.hid hs2; clear hs2
    have Hs3 := Lib.hid hs3; clear hs3
    have Hs4 := Lib.hid hs4; clear hs4
    go_upto_region 11 with (go_at_call 15; refine (Hs1.out _ (Kp.refl _)).mono ?_; rintro e w8 ⟨rfl, hb8⟩)
    go_wp2_with fail
    refine (Hs2.out _ (Kp.below hb8)).mono ?_
    rintro e w9 ⟨rfl, hb9⟩
    go_wp2_with fail
    refine (Hs4.out _ ((Kp.below hb8).trans (Kp.below hb9))).mono ?_
    rintro e w10 ⟨rfl, hb10⟩
    go_wp2
    intro todo
    exact Hk.out _ _ _ _ rfl rfl (k7.trans (((Kp.below hb8).trans (Kp.below hb9)).trans (Kp.below hb10)))
  · rw [show dd.length = 4 from H3.out] at hdl ⊢
    rw [show (exD == exBC) = false from by decide +kernel] at hs2
    rw [show (exD == exD) = true from by simp] at hs3
    rw [show exD.length = 1 from rfl] at hs2 hs3 hs4 ⊢
    have Hs1 := Lib.hid hs1; clear hs1
    have Hs2 := Lib.hid hs2; clear hs2
    have Hs3 := Lib.hid hs3; clear hs3
    have Hs4 := Lib.hid hs4; clear hs4
    go_upto_region 11 with (go_at_call 15; refine (Hs1.out _ (Kp.refl _)).mono ?_; rintro e w8 ⟨rfl, hb8⟩)
    go_wp2_with fail
    refine (Hs2.out _ (Kp.below hb8)).mono ?_
    rintro e w9 ⟨rfl, hb9⟩
    go_wp2_with fail
    refine (Hs3.out _ ((Kp.below hb8).trans (Kp.below hb9))).mono ?_
    rintro e w10 ⟨rfl, hb10⟩
    go_wp2_with fail
    refine (Hs4.out _ (((Kp.below hb8).trans (Kp.below hb9)).trans (Kp.below hb10))).mono ?_
    rintro e w11 ⟨rfl, hb11⟩
    go_wp2
    intro todo
    exact Hk.out _ _ _ _ rfl rfl (k7.trans ((((Kp.below hb8).trans (Kp.below hb9)).trans (Kp.below hb10)).trans (Kp.below hb11)))
theorem alive_ms {ch : Option Nat} {v : World} (ht : TabAt v) (hg : GAt v) (hk : AlK F cs v) :
    MS Tryd.prog SR gR sR F [] ch (Frame.enter Tryd.prog 33 #[] .normal) cs v := by
  obtain ⟨cc, dd, h1, h2, h3, h4, h5⟩ := exAlive
  refine al_head h1 ht hg fun a v' W2 L O T C wl ll ol tl cl hs hw hL hO hT hC k => ?_
  refine al_run hs hw hL hO hT hC h2 (ht.kp k hg) (hg.kp k) k fun ch a v' D dl q1 q2 q3 q4 q5 q6 q7 q8 q9 q10 q11 hL' hO' hC' hD' k' => ?_
  exact al_tail q1 q2 q3 q4 q5 q6 q7 q8 q9 q10 q11 hL' hO' hC' hD' h3 h4 h5 k' hk
end
end Go.Proofs.YtlipmagkplbkdaaDoor

/-! N8 -/
namespace Go.Proofs.YtlipmagkplbkdaaDoor
open Go Go.Conc Go.RowKit
set_option linter.unusedVariables false
set_option linter.unusedSimpArgs false
def bT9 : Frame := { (default : Frame) with fn := 26, kind := .normal }
section
variable {F : Value → Prop} {cs : List Frame}
def LstK (F : Value → Prop) (cs : List Frame) (v0 : World) (r : List Cel × Int) : Prop := ∀ ch a' v' todo A c, a'.defers = [] → slot a' 6 (.slice A r.1.length c) → slot a' 7 (.int .i64 r.2) → SlAt pCel (Old v') v' A c r.1 → Kp v0 v' → MS Tryd.prog SR gR sR F [] ch { bT9.at a' todo with mode := .returning } cs v'
theorem LstK.err {v0 : World} {r : List Cel × Int} {x : Int} (h : LstK F cs v0 r) (hr : r = ([], x)) {ch : Option Nat} {a' : Act} {v' : World} {todo : List Item} (hd : a'.defers = []) (h6 : slot a' 6 (.slice none 0 0)) (h7 : slot a' 7 (.int .i64 x)) (k : Kp v0 v') : MS Tryd.prog SR gR sR F [] ch { bT9.at a' todo with mode := .returning } cs v' := by
  subst hr
  exact h ch a' v' todo none 0 hd h6 h7 slat_nil k
end
end Go.Proofs.YtlipmagkplbkdaaDoor

/-! N9 -/
namespace Go.Proofs.YtlipmagkplbkdaaDoor
open Go Go.Conc Go.RowKit
set_option linter.unusedVariables false
set_option linter.unusedSimpArgs false
section
variable {P : Program} {o : Oper} {w : World}
theorem run_pickT (ev : Operand → Value) (c x y : Operand) (ho : o.op = .pick c x y) (hc : ev c = .bool true) {u : Value} (hx : ev x = u) : (execOp ev o).run P w = .ok (.value u) w := by
  unfold execOp
  simp only [ho, hc, hx]
  rfl
theorem run_eql (ev : Operand → Value) (t u : TypeId) (x y : Operand) (ho : o.op = .binOp .eql t x y u) (hu : P.underlying t = some (.int .i64)) {m n : Int} (hx : ev x = .int .i64 m) (hy : ev y = .int .i64 n) : (execOp ev o).run P w = .ok (.value (.bool (decide (m = n)))) w := by
  unfold execOp
  simp only [ho, hx, hy]
  simp [go_sem, run_underlying hu]
  rfl
theorem yielded_at {ops : Array Oper} {o' : Oper} {j d : Nat} {t : Bool} {a : Act} (hj : ops[j]? = some o') (hd : o'.dst = some d) (hs : slot a d (.bool t)) : yielded ops a.tmps j = some t := by
  unfold yielded
  have hs' : a.tmps.getD d undef = .bool t := hs
  rw [Array.getD_eq_getD_getElem?] at hs'
  cases h : a.tmps[d]? with
  | none => rw [h] at hs'; cases hs'
  | some x =>
    rw [h] at hs'
    have hs' : x = .bool t := hs'
    subst hs'
    rw [hj]
    show (match o'.dst.bind (fun x => a.tmps[x]?) with | some (.bool b) => some b | _ => none) = some t
    rw [hd]
    show (match a.tmps[d]? with | some (.bool b) => some b | _ => none) = some t
    rw [h]
theorem wanted_yes {ops : Array Oper} {o o' : Oper} {j d : Nat} {t : Bool} {a : Act} (hg : o.guard = some (j, t)) (hj : ops[j]? = some o') (hd : o'.dst = some d) (hs : slot a d (.bool t)) : Region.wanted o (yielded ops a.tmps) = true := by
  unfold Region.wanted
  rw [hg]
  show (yielded ops a.tmps j == some t) = true
  rw [yielded_at hj hd hs]
  cases t <;> rfl
end
section
variable {P : Program} {S : FuncId → Prop} {G Sb : Nat → Bool} {X : Sit} {b : Frame} {a : Act} {k : List Item} {cs : List Frame} {v v' : World}
theorem Walk.valG (hX : Walk P S G Sb X) {ops : Array Oper} {i : Nat} {r : List Nat} {o : Oper} (d : Option Tmp) (x : Value) (ho : ops[i]? = some o) (hk : okOp P (okX G Sb) Sb o.op = true) (hw : Region.wanted o (yielded ops a.tmps) = true) (hd : o.dst = d)
    (he : ∀ τ d, (execOp a.eval o).run P (Go.Proofs.YtlipmagkplbkdaaDoor.at2 v τ d) = .ok (.value x) (Go.Proofs.YtlipmagkplbkdaaDoor.at2 v' τ d)) (h : X (b.at (a.put d x) (.inRegion ops r :: k)) cs v') : X (b.at a (.inRegion ops (i :: r) :: k)) cs v := by
  subst hd
  exact hX.value ho hk hw he h
theorem map_none (f : Operand → Value) : (#[] : Array Operand).map f = #[] := by simp
end
end Go.Proofs.YtlipmagkplbkdaaDoor
