/- Texts of the proof that the statement of ChanceAlone holds, several in one. -/
import Derived.Test.YtlipmagkplbkdaaDoorZ15
import Derived.Test.YtlipmagkplbkdaaDoorZ14
import Derived.Test.YtlipmagkplbkdaaDoorZ9
import Derived.Test.YtlipmagkplbkdaaDoorZ13
import Derived.Test.YtlipmagkplbkdaaDoorZ8
import Derived.Test.YtlipmagkplbkdaaDoorZ12
set_option linter.unusedVariables false
set_option linter.unusedSimpArgs false
set_option linter.unusedSectionVars false
set_option maxRecDepth 100000
set_option maxHeartbeats 8000000
namespace Go.Proofs.YtlipmagkplbkdaaDoor
section
open Go Go.Conc Go.RowKit
noncomputable def alB : Code := match Tryd.f33.body with | some c => c | none => .skip
theorem alBody : Tryd.f33.body = some alB := by kernel_rfl
noncomputable def alR0 : Code := match alB with | .seq a _ => a | _ => .skip
noncomputable def alR1 : Code := match alB with | .seq _ (.seq a _) => a | _ => .skip
noncomputable def alR2 : Code := match alB with | .seq _ (.seq _ (.seq a _)) => a | _ => .skip
noncomputable def alR3 : Code := match alB with | .seq _ (.seq _ (.seq _ (.seq a _))) => a | _ => .skip
noncomputable def alR4 : Code := match alB with | .seq _ (.seq _ (.seq _ (.seq _ (.seq a _)))) => a | _ => .skip
noncomputable def alR5 : Code := match alB with | .seq _ (.seq _ (.seq _ (.seq _ (.seq _ (.seq a _))))) => a | _ => .skip
noncomputable def alO6 : Array Oper := match alB with | .seq _ (.seq _ (.seq _ (.seq _ (.seq _ (.seq _ (.seq (.region _ o _) _)))))) => o | _ => #[]
noncomputable def alT : Code := match alB with | .seq _ (.seq _ (.seq _ (.seq _ (.seq _ (.seq _ (.seq _ a)))))) => a | _ => .skip
theorem alB_eq : alB = .seq alR0 (.seq alR1 (.seq alR2 (.seq alR3 (.seq alR4 (.seq alR5 (.seq (.region 6 alO6 false) alT)))))) := by kernel_rfl
theorem alz6 : List.range alO6.size = [0, 1, 2, 3, 4, 5, 6, 7] := by kernel_rfl
theorem aokR0 : okC Tryd.prog gR sR alR0 = true := by kernel_rfl
theorem aokR1 : okC Tryd.prog gR sR alR1 = true := by kernel_rfl
theorem aokR2 : okC Tryd.prog gR sR alR2 = true := by kernel_rfl
theorem aokR3 : okC Tryd.prog gR sR alR3 = true := by kernel_rfl
theorem aokR4 : okC Tryd.prog gR sR alR4 = true := by kernel_rfl
theorem aokR5 : okC Tryd.prog gR sR alR5 = true := by kernel_rfl
def bA : Frame := { (default : Frame) with fn := 33, kind := .normal }
theorem bA_fn : ∃ fn, Tryd.prog.funcs[bA.fn]? = some fn := ⟨Tryd.f33, Tryd.func33⟩
theorem exW_small : exW.length <= 10000 /\ ∀ m ∈ exW, m.args.length <= 1000 := by decide +kernel
theorem exRs_small : Small exRs := small_of (by decide +kernel)
theorem exTwo_small : Small exTwo := small_of (by decide +kernel)
theorem sl9 {α : Type} {E : Rp α} {F : Nat -> Prop} {w' : World} {A : Option Addr} {c : Nat} {xs : List α} (h : SlAt E F w' A c xs) (hF : ∀ k, F k -> k < w'.heap.size) : SlAt E (Old w') w' A c xs := h.wide hF
section
variable {F : Value -> Prop} {cs : List Frame}
theorem own_fresh' {α : Type} {E : Rp α} {e : TypeId} {base : Nat} {w : World} {A : Option Addr} {n c : Nat} {xs : List α} (h : Own E e base (base <= ·) w (.slice A n c) xs) : SlAt E (fun k => base <= k /\ k < w.heap.size) w A c xs := by
 obtain ⟨A', c', h1, h2⟩ := h.fresh
 injection h1 with e1 e2 e3
 subst e1 e3
 exact h2
def AlK (F : Value -> Prop) (cs : List Frame) (v0 : World) : Prop := ∀ ch a' v' todo, a'.defers = [] -> slot a' 0 (.bool true) -> Kp v0 v' -> MS Tryd.prog SR gR sR F [] ch { bA.at a' todo with mode := .returning } cs v'
structure AlS (W2 L O T C : Option Addr) (wl ll ol tl cl n : Nat) (a : Act) : Prop where
 sz : a.tmps.size = 109
 df : a.defers = []
 s0 : slot a 0 (.bool false)
 s1 : slot a 1 (.slice W2 4 wl)
 s2 : slot a 2 (.slice L 4 ll)
 s3 : slot a 3 (.int .i64 0)
 s4 : slot a 4 (.slice O 2 ol)
 s5 : slot a 5 (.int .i64 0)
 s6 : slot a 6 (.slice T 2 tl)
 s7 : slot a 7 (.slice C n cl)
 s8 : slot a 8 (.int .i64 0)
theorem al_head {ch : Option Nat} {v : World} {cc : List Cel} (h1 : oneR exTwo 5 (cellN p2 65) = (cc, 0)) (ht : TabAt v) (hg : GAt v)
  (hl : ∀ a v' W2 L O T C wl ll ol tl cl, AlS W2 L O T C wl ll ol tl cl cc.length a -> SlAt pMod (Old v') v' W2 wl exW -> SlAt pCel (Old v') v' L ll exL -> SlAt pCel (Old v') v' O ol exBC -> SlAt pRul (Old v') v' T tl exTwo -> SlAt pCel (Old v') v' C cl cc -> Kp v v' ->
   MS Tryd.prog SR gR sR F [] ch (bA.at a [.code (.seq (.region 6 alO6 false) alT)]) cs v') :
  MS Tryd.prog SR gR sR F [] ch (Frame.enter Tryd.prog 33 #[] .normal) cs v := by
 have hX : Walk Tryd.prog SR gR sR (MS Tryd.prog SR gR sR F [] ch) := MS.walk ctxR
 rw [enter_tm [] 109 Tryd.func33 alBody (by kernel_rfl), alB_eq]
 simp only [List.replicate, List.cons_append, List.nil_append]
 show MS Tryd.prog SR gR sR F [] ch (bA.at _ _) cs v
 refine hX.seq (hX.wp ctxR rfl bA_fn aokR0 fun τ d => ?_)
 have k1 : Kp v (aT2 v τ d) := Kp.at2 _ _ _
 generalize aT2 v τ d = v1 at k1 ⊢
 obtain ⟨Hl, HX, Ht, Hg⟩ := HH4 hl hX ht hg; clear hl hX ht hg
 dsimp only [alR0, alB, Tryd.f33]
 go_wp2
 refine HX.out.seq (HX.out.wp ctxR rfl bA_fn aokR1 fun τ d => ?_)
 have k2 : Kp v (aT2 v1 τ d) := k1.trans (Kp.at2 _ _ _)
 generalize aT2 v1 τ d = v2 at k2 ⊢
 dsimp only [alR1, alB, Tryd.f33]
 go_wp2
 have hw := lit9 (E := pMod) (w := v2) (t := 49) (cells := #[.int .u8 70, .slice none 0 0, .int .u8 91, .slice none 0 0, .int .u8 65, .slice none 0 0, .int .u8 93, .slice none 0 0]) (xs := exW)
  ⟨[_, _], _, rfl, bare_R9 (fits_u8 (by decide)), [_, _], _, rfl, bare_R9 (fits_u8 (by decide)), [_, _], _, rfl, bare_R9 (fits_u8 (by decide)), [_, _], [], rfl, bare_R9 (fits_u8 (by decide)), rfl⟩ (by decide) (n := 4) rfl
 have k3 := k2.trans (Kp.alloc v2 (.cells #[.int .u8 70, .slice none 0 0, .int .u8 91, .slice none 0 0, .int .u8 65, .slice none 0 0, .int .u8 93, .slice none 0 0] 49))
 obtain ⟨A2, hA2⟩ : ∃ A2, (some ⟨v2.heap.size, 0, none⟩ : Option Addr) = A2 := ⟨_, rfl⟩
 rw [hA2] at hw ⊢
 clear hA2
 generalize hv3 : v2.alloc (.cells #[.int .u8 70, .slice none 0 0, .int .u8 91, .slice none 0 0, .int .u8 65, .slice none 0 0, .int .u8 93, .slice none 0 0] 49) = v3 at hw k3 ⊢
 clear hv3 k2
 have Hw := HH1 hw; clear hw
 refine HX.out.seq (HX.out.wp ctxR rfl bA_fn aokR2 fun τ d => ?_)
 have k4 : Kp v (aT2 v3 τ d) := k3.trans (Kp.at2 _ _ _)
 have hw4 := Hw.out.kp eqv_mod (Kp.at2 v3 τ d)
 generalize aT2 v3 τ d = v4 at k4 hw4 ⊢
 clear k3
 have hbg : Calls Tryd.prog 17 #[.slice A2 4 4] v4 (BeginPost (beginR exW) v4) := begin_calls A2 4 exW v4 hw4 exW_small.1 exW_small.2 (Ht.out.kp k4 Hg.out) (Hg.out.kp k4)
 have hbr : beginR exW = (exL, 0) := by unfold beginR; rw [if_pos exW_ok, exL_eq]
 rw [hbr] at hbg
 have hbg : Calls Tryd.prog 17 #[.slice A2 4 4] v4 fun e w' => ∃ A c, e = .returned (.tuple #[.slice A 4 c, .int .i64 0]) /\ SlAt pCel (Old w') w' A c exL /\ Below v4.heap.size v4 w' := hbg
 obtain ⟨Hbg, Hw4⟩ := HH2 hbg hw4; clear hbg hw4
 dsimp only [alR2, alB, Tryd.f33]
 go_wp2_with (go_at_call 17; refine Hbg.out.mono ?_; rintro e w4 ⟨L, ll, rfl, hL4, hb4⟩)
 have hL4 : SlAt pCel (Old w4) w4 L ll exL := hL4
 have hw5 := Hw4.out.kp eqv_mod (Kp.below hb4)
 have k5 := k4.trans (Kp.below hb4)
 clear hb4 k4
 obtain ⟨Hw5, HL4⟩ := HH2 hw5 hL4; clear hw5 hL4
 refine HX.out.seq (HX.out.wp ctxR rfl bA_fn aokR3 fun τ d => ?_)
 have k6 : Kp v (aT2 w4 τ d) := k5.trans (Kp.at2 _ _ _)
 have hw6 := Hw5.out.kp eqv_mod (Kp.at2 w4 τ d)
 have hL6 := HL4.out.kp eqv_cel (Kp.at2 w4 τ d)
 generalize aT2 w4 τ d = v6 at k6 hw6 hL6 ⊢
 clear k5
 have hgv : Calls Tryd.prog 35 #[] v6 fun e w' => ∃ A c, e = .returned (.slice A 1 c) /\ Own pRul 60 v6.heap.size (v6.heap.size <= ·) w' (.slice A 1 c) exRs /\ Below v6.heap.size v6 w' := given9_calls v6
 have hce := fun w => cell9_calls ⟨#[50]⟩ 65 w
 have hone := fun w7 w8 A c (h7 : Kp v6 w7) (h8 : Kp w7 w8) (hr : SlAt pRul (Old w7) w7 A c exRs) => (show Calls Tryd.prog 27 #[.slice A 1 c, .int .i64 5, .agg #[.string ⟨#[50]⟩, .int .u8 65, .slice none 0 0]] w8 (CelsPost (oneR exRs 5 (cellN p2 65)) w8) from
  one_calls A c exRs 5 (cellN p2 65) none 0 w8 (hr.kp eqv_rul h8) sl_none (fits_u8 (by decide)) (fits_i64 (by decide)) exRs_small (by decide +kernel) (Ht.out.kp (k6.trans (h7.trans h8)) Hg.out) (Hg.out.kp (k6.trans (h7.trans h8))))
 rw [exOne] at hone
 have hone : ∀ w7 w8 A c, Kp v6 w7 -> Kp w7 w8 -> SlAt pRul (Old w7) w7 A c exRs -> Calls Tryd.prog 27 #[.slice A 1 c, .int .i64 5, .agg #[.string ⟨#[50]⟩, .int .u8 65, .slice none 0 0]] w8 fun e w' => ∃ A c, e = .returned (.tuple #[.slice A 2 c, .int .i64 0]) /\ SlAt pCel (fun q => w8.heap.size <= q /\ q < w'.heap.size) w' A c exBC /\ Below w8.heap.size w8 w' := hone
 obtain ⟨Hw6, HL6, Hgv, Hce, Hone⟩ := HH5 hw6 hL6 hgv hce hone; clear hw6 hL6 hgv hce hone
 dsimp only [alR3, alB, Tryd.f33]
 go_wp2_with (first
  | (go_at_call 35; (refine Hgv.out.mono ?_; rintro e w7 ⟨G, gc, rfl, hG7, hb7⟩; have hG7' := sl9 (own_fresh' hG7) (fun k hk => hk.2); have kk7 := Kp.below hb7))
  | (go_at_call 36; refine (Hce.out _).mono ?_; rintro e w8 ⟨rfl, hb8⟩; have kk8 := Kp.below hb8)
  | (go_at_call 27; refine (Hone.out _ _ _ _ kk7 kk8 hG7').mono ?_; rintro e w9 ⟨O, ol, rfl, hO9, hb9⟩))
 have hO9 : SlAt pCel (Old w9) w9 O ol exBC := sl9 hO9 (fun k hk => hk.2)
 have k79 := (kk7.trans kk8).trans (Kp.below hb9)
 have k9 := k6.trans k79
 have hw9 := Hw6.out.kp eqv_mod k79
 have hL9 := HL6.out.kp eqv_cel k79
 clear k79 kk7 kk8 hG7' hG7 hb7 hb8 hb9 k6
 obtain ⟨HO9, Hw9, HL9⟩ := HH3 hO9 hw9 hL9; clear hO9 hw9 hL9
 refine HX.out.seq (HX.out.wp ctxR rfl bA_fn aokR4 fun τ d => ?_)
 have k10 : Kp v (aT2 w9 τ d) := k9.trans (Kp.at2 _ _ _)
 have hw10 := Hw9.out.kp eqv_mod (Kp.at2 w9 τ d)
 have hL10 := HL9.out.kp eqv_cel (Kp.at2 w9 τ d)
 have hO10 := HO9.out.kp eqv_cel (Kp.at2 w9 τ d)
 generalize aT2 w9 τ d = v10 at k10 hw10 hL10 hO10 ⊢
 clear k9
 have hgv : Calls Tryd.prog 35 #[] v10 fun e w' => ∃ A c, e = .returned (.slice A 1 c) /\ Own pRul 60 v10.heap.size (v10.heap.size <= ·) w' (.slice A 1 c) exRs /\ Below v10.heap.size v10 w' := given9_calls v10
 have hap : ∀ (w1 : World) (A : Option Addr) (c : Nat), v10.heap.size <= w1.heap.size -> Own pRul 60 v10.heap.size (v10.heap.size <= ·) w1 (.slice A 1 c) exRs ->
   ∃ w3, w3 = (w1.alloc (.cells #[.int .u8 68, .slice none 0 0] 72)).alloc (.cells #[.int .u8 65, .int .i64 0, .int .u8 0, .int .u8 0, .slice none 0 0, .int .i64 1, .slice (some ⟨w1.heap.size, 0, none⟩) 1 1] 60) /\
    Own pRul 60 v10.heap.size (v10.heap.size <= ·) w3 (.slice A 1 c) exRs /\ SlAt pRul (fun k => w1.heap.size <= k /\ k < w3.heap.size) w3 (some ⟨w1.heap.size + 1, 0, none⟩) 1 [ruleD] /\ Below v10.heap.size w1 w3 /\
    (∀ k, (w1.heap.size <= k /\ k < w3.heap.size) -> v10.heap.size <= k /\ k < w3.heap.size /\ some k ≠ (Value.slice A 1 c).ownBlock) /\ v10.heap.size <= w3.heap.size := by
  intro w1 A c hz hown
  refine ⟨_, rfl, (hown.alloc _).alloc _, ?_, ((Below.refl _ _).alloc hz _).alloc (by simp; omega) _, ?_, by simp; omega⟩
  ·have hs1 : SlAt pShp (fun k => w1.heap.size <= k /\ k < w1.heap.size + 1) (w1.alloc (.cells #[.int .u8 68, .slice none 0 0] 72)) (some ⟨w1.heap.size, 0, none⟩) 1 [⟨68, []⟩] :=
    sl_lit (E := pShp) (Blk.new w1 _ _) (xs := [⟨68, []⟩]) ⟨[_, _], [], rfl, shp_R9 (fits_u8 (by decide)), rfl⟩ ⟨Nat.le_refl _, by omega⟩ (by decide) rfl
   have hk2 : ∀ k, (w1.heap.size <= k /\ k < w1.heap.size + 1) -> ((w1.alloc (.cells #[.int .u8 68, .slice none 0 0] 72)).alloc (.cells #[.int .u8 65, .int .i64 0, .int .u8 0, .int .u8 0, .slice none 0 0, .int .i64 1, .slice (some ⟨w1.heap.size, 0, none⟩) 1 1] 60)).heap[k]? = (w1.alloc (.cells #[.int .u8 68, .slice none 0 0] 72)).heap[k]? := fun k hk => Below.heap_alloc _ _ _ (by simp; omega)
   have hz1 : (w1.alloc (.cells #[.int .u8 68, .slice none 0 0] 72)).heap.size = w1.heap.size + 1 := by simp
   have hB := Blk.new (w1.alloc (.cells #[.int .u8 68, .slice none 0 0] 72)) 60 #[.int .u8 65, .int .i64 0, .int .u8 0, .int .u8 0, .slice none 0 0, .int .i64 1, .slice (some ⟨w1.heap.size, 0, none⟩) 1 1]
   rw [hz1] at hB
   refine sl_lit (E := pRul) hB (xs := [ruleD]) ⟨[_, _, _, _, _, _, _], [], rfl, rul_R9 ((hs1.keep hk2).wide fun k hk => ⟨hk.1, by simp; omega⟩) rfl, rfl⟩ ⟨by omega, by simp⟩ (by decide) rfl
  ·intro k hk
   refine ⟨by omega, hk.2, fun e => ?_⟩
   have := (hown.lt k e.symm).2
   omega
 have hrm : Room 2 := room_of (by omega)
 have hrl : (exRs ++ [ruleD]).length = 2 := rfl
 obtain ⟨Hw10, HL10, HO10, Hgv, Hap, Hrm, Hrl⟩ := HH7 hw10 hL10 hO10 hgv hap hrm hrl; clear hw10 hL10 hO10 hgv hap hrm hrl
 dsimp only [alR4, alB, Tryd.f33]
 go_wp2_with (first
  | (go_at_call 35; refine Hgv.out.mono ?_; rintro e w1 ⟨G, gc, rfl, hG1, hb1⟩; obtain ⟨w3, hw3, hG3, hD3, hb3, hF3, hz3⟩ := Hap.out w1 G gc hb1.size hG1)
  | (at_builtin; (rw [<- hw3]; refine wpList_catG (E := pRul) (xs := exRs) (v := .slice G 1 gc) (base := v10.heap.size) (G := (v10.heap.size <= ·)) 22 60 (.agg #[.int .u8 0, .int .i64 0, .int .u8 0, .int .u8 0, .slice none 0 0, .int .i64 0, .slice none 0 0]) 80 (.tmp 30) (.tmp 34) rfl rfl Tryd.underlying22 (by kernel_rfl) rfl (by decide) rfl hG3 (some ⟨w1.heap.size + 1, 0, none⟩) 1 [ruleD] rfl _ hD3 hF3 2 Hrl.out Hrm.out (by decide) hz3 ?_; intro T tl w5 hT5 hg5)))
 have hT5 : SlAt pRul (Old w5) w5 T tl exTwo := sl9 (own_fresh' hT5.out) (fun k hk => hk.2)
 have k105 : Kp v10 w5 := Kp.below ((hb1.trans hb3).trans hg5.out.bel)
 have k11 := k10.trans k105
 have hw11 := Hw10.out.kp eqv_mod k105
 have hL11 := HL10.out.kp eqv_cel k105
 have hO11 := HO10.out.kp eqv_cel k105
 clear hb1 hb3 hg5 hF3 hD3 hG3 hw3 hz3 hG1 k10 k105
 obtain ⟨HT5, Hw11, HL11, HO11⟩ := HH4 hT5 hw11 hL11 hO11; clear hT5 hw11 hL11 hO11
 refine HX.out.seq (HX.out.wp ctxR rfl bA_fn aokR5 fun τ d => ?_)
 have k12 : Kp v (aT2 w5 τ d) := k11.trans (Kp.at2 _ _ _)
 have hw12 := Hw11.out.kp eqv_mod (Kp.at2 w5 τ d)
 have hL12 := HL11.out.kp eqv_cel (Kp.at2 w5 τ d)
 have hO12 := HO11.out.kp eqv_cel (Kp.at2 w5 τ d)
 have hT12 := HT5.out.kp eqv_rul (Kp.at2 w5 τ d)
 generalize aT2 w5 τ d = v12 at k12 hw12 hL12 hO12 hT12 ⊢
 clear k11
 have hce := fun w => cell9_calls ⟨#[50]⟩ 65 w
 have hone := fun w8 (h8 : Kp v12 w8) => (show Calls Tryd.prog 27 #[.slice T 2 tl, .int .i64 5, .agg #[.string ⟨#[50]⟩, .int .u8 65, .slice none 0 0]] w8 (CelsPost (oneR exTwo 5 (cellN p2 65)) w8) from
  one_calls T tl exTwo 5 (cellN p2 65) none 0 w8 (hT12.kp eqv_rul h8) sl_none (fits_u8 (by decide)) (fits_i64 (by decide)) exTwo_small (by decide +kernel) (Ht.out.kp (k12.trans h8) Hg.out) (Hg.out.kp (k12.trans h8)))
 rw [h1] at hone
 have hone : ∀ w8, Kp v12 w8 -> Calls Tryd.prog 27 #[.slice T 2 tl, .int .i64 5, .agg #[.string ⟨#[50]⟩, .int .u8 65, .slice none 0 0]] w8 fun e w' => ∃ A c, e = .returned (.tuple #[.slice A cc.length c, .int .i64 0]) /\ SlAt pCel (fun q => w8.heap.size <= q /\ q < w'.heap.size) w' A c cc /\ Below w8.heap.size w8 w' := hone
 obtain ⟨Hce, Hone, Hw12, HL12, HO12, HT12⟩ := HH6 hce hone hw12 hL12 hO12 hT12; clear hce hone hw12 hL12 hO12 hT12
 dsimp only [alR5, alB, Tryd.f33]
 go_wp2_with (first
  | (go_at_call 36; refine (Hce.out _).mono ?_; rintro e w13 ⟨rfl, hb13⟩; have kk13 := Kp.below hb13)
  | (go_at_call 27; refine (Hone.out _ kk13).mono ?_; rintro e w14 ⟨C, cl, rfl, hC14, hb14⟩))
 have k14 := kk13.trans (Kp.below hb14)
 exact Hl.out _ _ A2 L O T C 4 ll ol tl cl ⟨rfl, rfl, rfl, rfl, rfl, rfl, rfl, rfl, rfl, rfl, rfl⟩ (Hw12.out.kp eqv_mod k14) (HL12.out.kp eqv_cel k14) (HO12.out.kp eqv_cel k14) (HT12.out.kp eqv_rul k14) (sl9 hC14 (fun k hk => hk.2)) (k12.trans k14)
end
end
section
open Go Go.Conc Go.RowKit
noncomputable def alR7 : Code := match alT with | .seq a _ => a | _ => .skip
noncomputable def alR8 : Code := match alT with | .seq _ (.seq a _) => a | _ => .skip
noncomputable def alE : Code := match alT with | .seq _ (.seq _ a) => a | _ => .skip
theorem alT_eq : alT = .seq alR7 (.seq alR8 alE) := by kernel_rfl
theorem aokR7 : okC Tryd.prog gR sR alR7 = true := by kernel_rfl
theorem aokR8 : okC Tryd.prog gR sR alR8 = true := by kernel_rfl
theorem aokE : okC Tryd.prog gR sR alE = true := by kernel_rfl
section
variable {F : Value -> Prop} {cs : List Frame}
theorem al_run {ch : Option Nat} {v v0 : World} {cc dd : List Cel} {a : Act} {W2 L O T C : Option Addr} {wl ll ol tl cl : Nat} (h : AlS W2 L O T C wl ll ol tl cl cc.length a) (hw : SlAt pMod (Old v) v W2 wl exW) (hL : SlAt pCel (Old v) v L ll exL) (hO : SlAt pCel (Old v) v O ol exBC) (hT : SlAt pRul (Old v) v T tl exTwo) (hC : SlAt pCel (Old v) v C cl cc)
  (hdd : pRun9 exTwo 5 exW 1 = (dd, 0)) (ht : TabAt v) (hg : GAt v) (k0 : Kp v0 v)
  (hl : ∀ ch a v' D dl, a.tmps.size = 109 -> a.defers = [] -> slot a 0 (.bool false) -> slot a 2 (.slice L 4 ll) -> slot a 3 (.int .i64 0) -> slot a 4 (.slice O 2 ol) -> slot a 5 (.int .i64 0) -> slot a 7 (.slice C cc.length cl) -> slot a 8 (.int .i64 0) -> slot a 9 (.slice D dd.length dl) -> slot a 10 (.int .i64 0) ->
   SlAt pCel (Old v') v' L ll exL -> SlAt pCel (Old v') v' O ol exBC -> SlAt pCel (Old v') v' C cl cc -> SlAt pCel (Old v') v' D dl dd -> Kp v0 v' -> MS Tryd.prog SR gR sR F [] ch (bA.at a [.code alT]) cs v') :
  MS Tryd.prog SR gR sR F [] ch (bA.at a [.code (.seq (.region 6 alO6 false) alT)]) cs v := by
 have hXX : ∀ ch, Walk Tryd.prog SR gR sR (MS Tryd.prog SR gR sR F [] ch) := fun ch => MS.walk ctxR
 have hX := hXX ch
 have h := Sl.of (L := [(0, .bool false), (1, .slice W2 4 wl), (2, .slice L 4 ll), (3, .int .i64 0), (4, .slice O 2 ol), (5, .int .i64 0), (6, .slice T 2 tl), (7, .slice C cc.length cl), (8, .int .i64 0)]) h.sz h.df ⟨h.s0, h.s1, h.s2, h.s3, h.s4, h.s5, h.s6, h.s7, h.s8, trivial⟩
 refine hX.seq (hX.region ?_)
 rw [alz6]
 refine hX.mv h rfl (by kernel_rfl) (.inl rfl) rfl (.inl rfl) rfl rfl fun a h => ?_
 refine hX.mv h rfl (by kernel_rfl) (.inl rfl) rfl (.inl rfl) rfl rfl fun a h => ?_
 refine MS.en (xs := [.slice T 2 tl, .int .i64 5, .slice W2 4 wl, .int .i64 1]) h rfl (.inl rfl) rfl (by kernel_rfl) ⟨_, _, Tryd.func13, runBody, by kernel_rfl⟩ rfl ?_
 refine run_ms (rs := exTwo) (ms := exW) hT hw exTwo_small (fits_i64 (by decide)) (fits_i64 (by decide)) exW_small.1 exW_small.2 ht hg ?_
 rw [hdd]
 intro ch a' v' todo D dl hd' q8 q9 hsl kk
 have hX := hXX ch
 refine hX.bk (x := .tuple #[.slice D dd.length dl, .int .i64 0]) h rfl rfl Tryd.func13 rfl rfl rfl (fun τ t => res2 rfl q8 q9 _) fun a h => ?_
 refine hX.mv h rfl (by kernel_rfl) (.inl rfl) rfl (.inl rfl) rfl rfl fun a h => ?_
 refine hX.ex h rfl (by kernel_rfl) (.inl rfl) rfl rfl rfl rfl rfl fun a h => ?_
 refine hX.ex h rfl (by kernel_rfl) (.inl rfl) rfl rfl rfl rfl rfl fun a h => ?_
 refine hX.mv h rfl (by kernel_rfl) (.inl rfl) rfl (.inr rfl) rfl rfl fun a h => ?_
 refine hX.mv h rfl (by kernel_rfl) (.inl rfl) rfl (.inr rfl) rfl rfl fun a h => ?_
 refine hX.done ?_
 have hsl : SlAt pCel (Old v') v' D dl dd := hsl
 exact hl _ _ _ D dl h.sz h.df (h.at_ 0 _ rfl) (h.at_ 2 _ rfl) (h.at_ 3 _ rfl) (h.at_ 4 _ rfl) (h.at_ 5 _ rfl) (h.at_ 7 _ rfl) (h.at_ 8 _ rfl) (h.at_ 9 _ rfl) (h.at_ 10 _ rfl) (hL.kp eqv_cel kk) (hO.kp eqv_cel kk) (hC.kp eqv_cel kk) hsl (k0.trans kk)
theorem al_tail {ch : Option Nat} {v v0 : World} {cc dd : List Cel} {a : Act} {L O C D : Option Addr} {ll ol cl dl : Nat} (hz : a.tmps.size = 109) (hd : a.defers = []) (s0 : slot a 0 (.bool false)) (s2 : slot a 2 (.slice L 4 ll)) (s3 : slot a 3 (.int .i64 0)) (s4 : slot a 4 (.slice O 2 ol)) (s5 : slot a 5 (.int .i64 0)) (s7 : slot a 7 (.slice C cc.length cl)) (s8 : slot a 8 (.int .i64 0)) (s9 : slot a 9 (.slice D dd.length dl)) (s10 : slot a 10 (.int .i64 0))
  (hL : SlAt pCel (Old v) v L ll exL) (hO : SlAt pCel (Old v) v O ol exBC) (hC : SlAt pCel (Old v) v C cl cc) (hD : SlAt pCel (Old v) v D dl dd)
  (h2 : cc = exBC ∨ cc = exD) (h3 : dd.length = 3 + cc.length) (h4 : (dd.drop 2).take cc.length = cc) (k0 : Kp v0 v) (hk : AlK F cs v0) :
  MS Tryd.prog SR gR sR F [] ch (bA.at a [.code alT]) cs v := by
 have hX : Walk Tryd.prog SR gR sR (MS Tryd.prog SR gR sR F [] ch) := MS.walk ctxR
 rw [alT_eq]
 obtain ⟨j, rfl, hj⟩ := (Sl.of (L := [(0, _), (2, _), (3, _), (4, _), (5, _), (7, _), (8, _), (9, _), (10, _)]) hz hd ⟨s0, s2, s3, s4, s5, s7, s8, s9, s10, trivial⟩).lit
 simp only [List.range, List.range.loop, List.map, hj 0 _ rfl, hj 2 _ rfl, hj 3 _ rfl, hj 4 _ rfl, hj 5 _ rfl, hj 7 _ rfl, hj 8 _ rfl, hj 9 _ rfl, hj 10 _ rfl]
 clear hj hz hd s0 s2 s3 s4 s5 s7 s8 s9 s10
 obtain ⟨b, o, rfl⟩ : ∃ b o, D = some ⟨b, o, none⟩ := by
  obtain ⟨x, hx⟩ : ∃ x, dd[0]? = some x := ⟨dd[0]'(by omega), by simp⟩
  obtain ⟨b, o, _, h, _⟩ := hD.el 0 x hx
  exact ⟨b, o, h⟩
 obtain ⟨Hk, HX, H2, H3, H4⟩ := HH5 hk hX h2 h3 h4; clear hk hX h2 h3 h4
 refine HX.out.seq (HX.out.wp ctxR rfl bA_fn aokR7 fun τ d => ?_)
 have k1 : Kp v0 (aT2 v τ d) := k0.trans (Kp.at2 _ _ _)
 have hL1 := hL.kp eqv_cel (Kp.at2 v τ d)
 have hO1 := hO.kp eqv_cel (Kp.at2 v τ d)
 have hC1 := hC.kp eqv_cel (Kp.at2 v τ d)
 have hD1 := hD.kp eqv_cel (Kp.at2 v τ d)
 generalize aT2 v τ d = v1 at k1 hL1 hO1 hC1 hD1 ⊢
 clear k0 hL hO hC hD
 have hce := fun p n w => cell9_calls p n w
 obtain ⟨Hce, HL1, HO1, HC1, HD1⟩ := HH5 hce hL1 hO1 hC1 hD1; clear hce hL1 hO1 hC1 hD1
 dsimp only [alR7, alT, alB, Tryd.f33]
 go_wp2_with (go_at_call 36; refine (Hce.out _ _ _).mono ?_; rintro e w2 ⟨rfl, hb2⟩; have kk2 := Kp.below hb2)
 rename_i wa ha ka wb hb kb
 have hB := lit9 (E := pCel) (w := wb) (t := 51) (cells := #[.string ⟨#[50, 47, 48]⟩, .int .u8 66, .slice none 0 0, .string ⟨#[50, 47, 49]⟩, .int .u8 67, .slice none 0 0]) (xs := exBC)
  ⟨[_, _, _], _, rfl, cel_R9 (by decide +kernel) (fits_u8 (by decide)), [_, _, _], [], rfl, cel_R9 (by decide +kernel) (fits_u8 (by decide)), rfl⟩ (by decide) (n := 2) rfl
 have hE := lit9 (E := pCel) (w := w2) (t := 51) (cells := #[.string ⟨#[50, 47, 48]⟩, .int .u8 68, .slice none 0 0]) (xs := exD)
  ⟨[_, _, _], [], rfl, cel_R9 (by decide +kernel) (fits_u8 (by decide)), rfl⟩ (by decide) (n := 1) rfl
 have kv2 := ((ka.trans kb).trans (Kp.alloc wb (.cells #[.string ⟨#[50, 47, 48]⟩, .int .u8 66, .slice none 0 0, .string ⟨#[50, 47, 49]⟩, .int .u8 67, .slice none 0 0] 51))).trans (kk2.trans (Kp.alloc w2 (.cells #[.string ⟨#[50, 47, 48]⟩, .int .u8 68, .slice none 0 0] 51)))
 have hB := hB.kp eqv_cel (kk2.trans (Kp.alloc w2 (.cells #[.string ⟨#[50, 47, 48]⟩, .int .u8 68, .slice none 0 0] 51)))
 obtain ⟨B, hBn⟩ : ∃ B, (some ⟨wb.heap.size, 0, none⟩ : Option Addr) = B := ⟨_, rfl⟩
 obtain ⟨E, hEn⟩ : ∃ B, (some ⟨w2.heap.size, 0, none⟩ : Option Addr) = B := ⟨_, rfl⟩
 rw [hBn] at hB ⊢
 rw [hEn] at hE ⊢
 generalize hv3 : w2.alloc (.cells #[.string ⟨#[50, 47, 48]⟩, .int .u8 68, .slice none 0 0] 51) = v3 at hB hE kv2 ⊢
 clear hv3 hBn hEn ka kb kk2 ha hb hb2
 have k3 := k1.trans kv2
 have hL3 := HL1.out.kp eqv_cel kv2
 have hO3 := HO1.out.kp eqv_cel kv2
 have hC3 := HC1.out.kp eqv_cel kv2
 have hD3 := HD1.out.kp eqv_cel kv2
 clear kv2 k1
 obtain ⟨HB, HE, HL3, HO3, HC3, HD3⟩ := HH6 hB hE hL3 hO3 hC3 hD3; clear hB hE hL3 hO3 hC3 hD3
 refine HX.out.seq (HX.out.wp ctxR rfl bA_fn aokR8 fun τ d => ?_)
 have k4 : Kp v0 (aT2 v3 τ d) := k3.trans (Kp.at2 _ _ _)
 have hL4 := HL3.out.kp eqv_cel (Kp.at2 v3 τ d)
 have hO4 := HO3.out.kp eqv_cel (Kp.at2 v3 τ d)
 have hC4 := HC3.out.kp eqv_cel (Kp.at2 v3 τ d)
 have hD4 := HD3.out.kp eqv_cel (Kp.at2 v3 τ d)
 have hB4 := HB.out.kp eqv_cel (Kp.at2 v3 τ d)
 have hE4 := HE.out.kp eqv_cel (Kp.at2 v3 τ d)
 generalize aT2 v3 τ d = v4 at k4 hL4 hO4 hC4 hD4 hB4 hE4 ⊢
 clear k3
 have hsm : ∀ (w : World) A, Kp v4 w -> SlAt pCel (Old w) w A 4 exL -> Calls Tryd.prog 15 #[.slice L 4 ll, .slice A 4 4] w (BoolPost (exL == exL) w) := fun w A hk hA => sameC_calls L A ll 4 exL exL w (hL4.kp eqv_cel hk) hA
 rw [show (exL == exL) = true from by simp] at hsm
 unfold BoolPost at hsm
 have hlt : ∀ w : World, SlAt pCel (Old (w.alloc (.cells #[.string ⟨#[48]⟩, .int .u8 70, .slice none 0 0, .string ⟨#[49]⟩, .int .u8 91, .slice none 0 0, .string ⟨#[50]⟩, .int .u8 65, .slice none 0 0, .string ⟨#[51]⟩, .int .u8 93, .slice none 0 0] 51)))
   (w.alloc (.cells #[.string ⟨#[48]⟩, .int .u8 70, .slice none 0 0, .string ⟨#[49]⟩, .int .u8 91, .slice none 0 0, .string ⟨#[50]⟩, .int .u8 65, .slice none 0 0, .string ⟨#[51]⟩, .int .u8 93, .slice none 0 0] 51)) (some ⟨w.heap.size, 0, none⟩) 4 exL := fun w => lit9 (E := pCel) (xs := exL)
  ⟨[_, _, _], _, rfl, cel_R9 (by decide +kernel) (fits_u8 (by decide)), [_, _, _], _, rfl, cel_R9 (by decide +kernel) (fits_u8 (by decide)), [_, _, _], _, rfl, cel_R9 (by decide +kernel) (fits_u8 (by decide)), [_, _, _], [], rfl, cel_R9 (by decide +kernel) (fits_u8 (by decide)), rfl⟩ (by decide) (n := 4) rfl
 have hkl : ∀ w : World, Kp w (w.alloc (.cells #[.string ⟨#[48]⟩, .int .u8 70, .slice none 0 0, .string ⟨#[49]⟩, .int .u8 91, .slice none 0 0, .string ⟨#[50]⟩, .int .u8 65, .slice none 0 0, .string ⟨#[51]⟩, .int .u8 93, .slice none 0 0] 51)) := fun w => Kp.alloc _ _
 have hk0 : Kp v4 v4 := Kp.refl _
 obtain ⟨Hsm, Hlt, Hkl, Hk0, HL4, HO4, HC4, HD4, HB4, HE4⟩ := HH10 hsm hlt hkl hk0 hL4 hO4 hC4 hD4 hB4 hE4; clear hsm hlt hkl hk0 hL4 hO4 hC4 hD4 hB4 hE4
 dsimp only [alR8, alT, alB, Tryd.f33]
 go_wp2_with (first
  | (go_at_call 36; refine (Hce.out _ _ _).mono ?_; rintro e w5 ⟨rfl, hb5⟩; have Hk0 := HH1 (Hk0.out.trans (Kp.below hb5)); clear hb5)
  | (go_at_call 15; refine (Hsm.out _ _ (Hk0.out.trans (Hkl.out _)) (Hlt.out _)).mono ?_; rintro e w6 ⟨rfl, hb6⟩))
 have kv6 := (Hk0.out.trans (Hkl.out _)).trans (Kp.below hb6)
 have k6 := k4.trans kv6
 have hO6 := HO4.out.kp eqv_cel kv6
 have hC6 := HC4.out.kp eqv_cel kv6
 have hD6 := HD4.out.kp eqv_cel kv6
 have hB6 := HB4.out.kp eqv_cel kv6
 have hE6 := HE4.out.kp eqv_cel kv6
 clear kv6 hb6 k4
 obtain ⟨HO6, HC6, HD6, HB6, HE6⟩ := HH5 hO6 hC6 hD6 hB6 hE6; clear hO6 hC6 hD6 hB6 hE6
 refine HX.out.wp ctxR rfl bA_fn aokE fun τ d => ?_
 have k7 : Kp v0 (aT2 w6 τ d) := k6.trans (Kp.at2 _ _ _)
 have hO7 := HO6.out.kp eqv_cel (Kp.at2 w6 τ d)
 have hC7 := HC6.out.kp eqv_cel (Kp.at2 w6 τ d)
 have hD7 := HD6.out.kp eqv_cel (Kp.at2 w6 τ d)
 have hB7 := HB6.out.kp eqv_cel (Kp.at2 w6 τ d)
 have hE7 := HE6.out.kp eqv_cel (Kp.at2 w6 τ d)
 generalize aT2 w6 τ d = v7 at k7 hO7 hC7 hD7 hB7 hE7 ⊢
 clear k6
 have hs1 : ∀ w, Kp v7 w -> Calls Tryd.prog 15 #[.slice O 2 ol, .slice B 2 2] w (BoolPost (exBC == exBC) w) := fun w k => sameC_calls O B ol 2 exBC exBC w (hO7.kp eqv_cel k) (hB7.kp eqv_cel k)
 rw [show (exBC == exBC) = true from by simp] at hs1
 have hs2 := fun w (k : Kp v7 w) => sameC_calls C B cl 2 cc exBC w (hC7.kp eqv_cel k) (hB7.kp eqv_cel k)
 have hs3 := fun w (k : Kp v7 w) => sameC_calls C E cl 1 cc exD w (hC7.kp eqv_cel k) (hE7.kp eqv_cel k)
 have hdl := hD7.le
 have hs4 := fun w (k : Kp v7 w) => by
  have hcut := slAt_take9 (slAt_cut9 (hD7.kp eqv_cel k) (l := 2) (by have := H3.out; omega)) cc.length
  rw [if_neg (by have := H3.out; omega), Option.map_some, Addr.add_lit, H4.out] at hcut
  exact (show Calls Tryd.prog 15 #[.slice (some ⟨b, o + 6, none⟩) cc.length (dl - 2), .slice C cc.length cl] w (BoolPost (cc == cc) w) from sameC_calls _ C _ cl cc cc w hcut (hC7.kp eqv_cel k))
 rw [show (cc == cc) = true from by simp] at hs4
 unfold BoolPost at hs1 hs2 hs3 hs4
 dsimp only [alE, alT, alB, Tryd.f33]
 rcases H2.out with rfl | rfl
 ·rw [show dd.length = 5 from H3.out] at hdl ⊢
  rw [show (exBC == exBC) = true from by simp] at hs2
  rw [show exBC.length = 2 from rfl] at hs2 hs4 ⊢
  obtain ⟨Hs1, Hs2, Hs3, Hs4⟩ := HH4 hs1 hs2 hs3 hs4; clear hs1 hs2 hs3 hs4
  go_upto_region 11 with (go_at_call 15; refine (Hs1.out _ (Kp.refl _)).mono ?_; rintro e w8 ⟨rfl, hb8⟩)
  go_wp2_with fail
  refine (Hs2.out _ (Kp.below hb8)).mono ?_
  rintro e w9 ⟨rfl, hb9⟩
  go_wp2_with fail
  refine (Hs4.out _ ((Kp.below hb8).trans (Kp.below hb9))).mono ?_
  rintro e w10 ⟨rfl, hb10⟩
  go_wp2
  intro todo
  exact Hk.out _ _ _ _ rfl rfl (k7.trans (((Kp.below hb8).trans (Kp.below hb9)).trans (Kp.below hb10)))
 ·rw [show dd.length = 4 from H3.out] at hdl ⊢
  rw [show (exD == exBC) = false from by decide +kernel] at hs2
  rw [show (exD == exD) = true from by simp] at hs3
  rw [show exD.length = 1 from rfl] at hs2 hs3 hs4 ⊢
  obtain ⟨Hs1, Hs2, Hs3, Hs4⟩ := HH4 hs1 hs2 hs3 hs4; clear hs1 hs2 hs3 hs4
  go_upto_region 11 with (go_at_call 15; refine (Hs1.out _ (Kp.refl _)).mono ?_; rintro e w8 ⟨rfl, hb8⟩)
  go_wp2_with fail
  refine (Hs2.out _ (Kp.below hb8)).mono ?_
  rintro e w9 ⟨rfl, hb9⟩
  go_wp2_with fail
  refine (Hs3.out _ ((Kp.below hb8).trans (Kp.below hb9))).mono ?_
  rintro e w10 ⟨rfl, hb10⟩
  go_wp2_with fail
  refine (Hs4.out _ (((Kp.below hb8).trans (Kp.below hb9)).trans (Kp.below hb10))).mono ?_
  rintro e w11 ⟨rfl, hb11⟩
  go_wp2
  intro todo
  exact Hk.out _ _ _ _ rfl rfl (k7.trans ((((Kp.below hb8).trans (Kp.below hb9)).trans (Kp.below hb10)).trans (Kp.below hb11)))
theorem alive_ms {ch : Option Nat} {v : World} (ht : TabAt v) (hg : GAt v) (hk : AlK F cs v) :
  MS Tryd.prog SR gR sR F [] ch (Frame.enter Tryd.prog 33 #[] .normal) cs v := by
 obtain ⟨cc, dd, h1, h2, h3, h4, h5⟩ := exAlive
 refine al_head h1 ht hg fun a v' W2 L O T C wl ll ol tl cl hs hw hL hO hT hC k => ?_
 refine al_run hs hw hL hO hT hC h2 (ht.kp k hg) (hg.kp k) k fun ch a v' D dl q1 q2 q3 q4 q5 q6 q7 q8 q9 q10 q11 hL' hO' hC' hD' k' => ?_
 exact al_tail q1 q2 q3 q4 q5 q6 q7 q8 q9 q10 q11 hL' hO' hC' hD' h3 h4 h5 k' hk
end
end
section
open Go Go.Conc Go.RowKit
def validB (rs : List Rul) (l : List Cel) : Bool := !greatR rs && (decide (checkC rs = 0) && (!greatL l && decide (cellsR l = 0)))
theorem validB_true {rs : List Rul} {l : List Cel} (h : validB rs l = true) : greatR rs = false /\ checkC rs = 0 /\ greatL l = false /\ cellsR l = 0 := by
 unfold validB at h
 simpa using h
theorem valid_calls (A B : Option Addr) (c d : Nat) (rs : List Rul) (l : List Cel) (w : World) (h : SlAt pRul (Old w) w A c rs) (h' : SlAt pCel (Old w) w B d l) : Calls Tryd.prog 30 #[.slice A rs.length c, .slice B l.length d] w (BoolPost (validB rs l) w) := by
 have g1 := greatR_calls A c rs w h
 unfold GreatPost at g1
 have hv : validB rs l = (!greatR rs && (decide (checkC rs = 0) && (!greatL l && decide (cellsR l = 0)))) := rfl
 cases e1 : greatR rs
 case true =>
  rw [e1] at g1 hv
  obtain ⟨G1, Hv, H, H'⟩ := HH4 g1 hv h h'; clear g1 hv h h'
  clear e1
  go_enter Tryd.func30, Tryd.ntmps30
  go_wp2_with (go_at_call 11; refine G1.out.mono ?_; rintro e w' ⟨rfl, rfl⟩)
  go_ret
  exact ⟨ret_bool (by rw [Hv.out]; rfl), Below.refl _ _⟩
 rw [e1] at g1 hv
 have hck := refCheckC_calls A c rs w h (small_of e1)
 unfold IntPost at hck
 clear e1
 by_cases hc : checkC rs = 0
 case neg =>
  have e0 : (checkC rs == 0) = false := by simp [hc]
  rw [decide_eq_false hc] at hv
  generalize checkC rs = x at hck e0
  clear hc
  obtain ⟨G1, Hv, H, H', Hck⟩ := HH5 g1 hv h h' hck; clear g1 hv h h' hck
  go_enter Tryd.func30, Tryd.ntmps30
  go_wp2_with (first | (go_at_call 11; refine G1.out.mono ?_; rintro e w' ⟨rfl, rfl⟩) | (go_at_call 22; refine Hck.out.mono ?_; rintro e w1 ⟨rfl, hb1⟩))
  go_ret
  exact ⟨ret_bool (by rw [Hv.out]; rfl), hb1⟩
 rw [hc] at hck
 rw [decide_eq_true hc] at hv
 have g2 := fun w1 (hb : Below w.heap.size w w1) => greatC_calls B d l w1 (h'.later hb)
 cases e2 : greatL l
 case true =>
  rw [e2] at g2 hv
  obtain ⟨G1, Hv, H, H', Hck, G2⟩ := HH6 g1 hv h h' hck g2; clear g1 hv h h' hck g2
  clear e2 hc
  go_enter Tryd.func30, Tryd.ntmps30
  go_wp2_with (first | (go_at_call 11; refine G1.out.mono ?_; rintro e w' ⟨rfl, rfl⟩) | (go_at_call 22; refine Hck.out.mono ?_; rintro e w1 ⟨rfl, hb1⟩) | (go_at_call 16; refine (G2.out _ hb1).mono ?_; rintro e w' ⟨rfl, rfl⟩))
  go_ret
  exact ⟨ret_bool (by rw [Hv.out]; rfl), hb1⟩
 rw [e2] at g2 hv
 have hcl := fun w1 (hb : Below w.heap.size w w1) => refCells_calls B d l w1 (h'.later hb)
 unfold IntPost at hcl
 clear e2 hc
 by_cases hc2 : cellsR l = 0
 case neg =>
  have e0 : (cellsR l == 0) = false := by simp [hc2]
  rw [decide_eq_false hc2] at hv
  generalize cellsR l = x at hcl e0
  clear hc2
  obtain ⟨G1, Hv, H, H', Hck, G2, Hcl⟩ := HH7 g1 hv h h' hck g2 hcl; clear g1 hv h h' hck g2 hcl
  go_enter Tryd.func30, Tryd.ntmps30
  go_wp2_with (first | (go_at_call 11; refine G1.out.mono ?_; rintro e w' ⟨rfl, rfl⟩) | (go_at_call 22; refine Hck.out.mono ?_; rintro e w1 ⟨rfl, hb1⟩) | (go_at_call 16; refine (G2.out _ hb1).mono ?_; rintro e w' ⟨rfl, rfl⟩) | (go_at_call 24; refine (Hcl.out _ hb1).mono ?_; rintro e w2 ⟨rfl, hb2⟩))
  go_ret
  exact ⟨ret_bool (by rw [Hv.out]; rfl), hb1.trans (hb2.mono hb1.size)⟩
 rw [hc2] at hcl
 rw [decide_eq_true hc2] at hv
 clear hc2
 obtain ⟨G1, Hv, H, H', Hck, G2, Hcl⟩ := HH7 g1 hv h h' hck g2 hcl; clear g1 hv h h' hck g2 hcl
 go_enter Tryd.func30, Tryd.ntmps30
 go_wp2_with (first | (go_at_call 11; refine G1.out.mono ?_; rintro e w' ⟨rfl, rfl⟩) | (go_at_call 22; refine Hck.out.mono ?_; rintro e w1 ⟨rfl, hb1⟩) | (go_at_call 16; refine (G2.out _ hb1).mono ?_; rintro e w' ⟨rfl, rfl⟩) | (go_at_call 24; refine (Hcl.out _ hb1).mono ?_; rintro e w2 ⟨rfl, hb2⟩))
 go_ret
 exact ⟨ret_bool (by rw [Hv.out]; rfl), hb1.trans (hb2.mono hb1.size)⟩
def bT9 : Frame := { (default : Frame) with fn := 26, kind := .normal }
section
variable {F : Value -> Prop} {cs : List Frame}
def LstK (F : Value -> Prop) (cs : List Frame) (v0 : World) (r : List Cel × Int) : Prop := ∀ ch a' v' todo A c, a'.defers = [] -> slot a' 6 (.slice A r.1.length c) -> slot a' 7 (.int .i64 r.2) -> SlAt pCel (Old v') v' A c r.1 -> Kp v0 v' -> MS Tryd.prog SR gR sR F [] ch { bT9.at a' todo with mode := .returning } cs v'
theorem LstK.err {v0 : World} {r : List Cel × Int} {x : Int} (h : LstK F cs v0 r) (hr : r = ([], x)) {ch : Option Nat} {a' : Act} {v' : World} {todo : List Item} (hd : a'.defers = []) (h6 : slot a' 6 (.slice none 0 0)) (h7 : slot a' 7 (.int .i64 x)) (k : Kp v0 v') : MS Tryd.prog SR gR sR F [] ch { bT9.at a' todo with mode := .returning } cs v' := by
 subst hr
 exact h ch a' v' todo none 0 hd h6 h7 slat_nil k
end
end
section
open Go Go.Conc Go.RowKit
section
variable {P : Program} {o : Oper} {w : World}
theorem run_notX (ev : Operand -> Value) (t : TypeId) (x : Operand) (ho : o.op = .unOp .not t x) {b c : Bool} (hx : ev x = .bool b) (hc : (!b) = c) : (execOp ev o).run P w = .ok (.value (.bool c)) w := by
 subst hc
 unfold execOp
 simp only [ho, hx]
 simp [go_sem]
end
section
variable {P : Program} {S : FuncId -> Prop} {G Sb : Nat -> Bool} {X : Sit} {b : Frame} {a : Act} {k : List Item} {cs : List Frame} {v v' : World}
theorem map_none (f : Operand -> Value) : (#[] : Array Operand).map f = #[] := by simp
end
end
end Go.Proofs.YtlipmagkplbkdaaDoor
