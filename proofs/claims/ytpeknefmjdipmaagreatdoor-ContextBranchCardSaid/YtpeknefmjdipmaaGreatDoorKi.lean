/-
  ContextBranch, the walk of the law.
-/
import Derived.Test.YtpeknefmjdipmaaGreatDoorKd
import Derived.Test.YtpeknefmjdipmaaGreatDoorCj
import Derived.Test.YtpeknefmjdipmaaGreatDoorWe
namespace Go.Proofs.YtpeknefmjdipmaaGreatDoor
open Go.RowKit Go.Sort
set_option linter.unusedVariables false
theorem slAt_cutK {α : Type} {E : Rp α} {F : Nat → Prop} {w : World} {A : Option Addr} {cap : Nat} {xs : List α} (h : SlAt E F w A cap xs) {l : Nat} (h1 : l ≤ xs.length) :
    SlAt E F w (if cap = l then A else A.map (·.add (l * E.n))) (cap - l) (xs.drop l) := by
  have hle := h.le
  refine ⟨by rw [List.length_drop]; omega, by have := h.mx; omega, fun hn => ?_, fun i x hx => ?_⟩
  · by_cases hc : cap = l
    · omega
    · rw [if_neg hc] at hn
      have := h.nil (by cases A with | none => rfl | some a => cases hn)
      omega
  · have hi' := (List.getElem?_eq_some_iff.1 hx).1
    rw [List.length_drop] at hi'
    rw [List.getElem?_drop] at hx
    obtain ⟨b, o, cs, rfl, h3, h4, h5⟩ := h.el _ _ hx
    refine ⟨b, o + l * E.n, cs, ?_, h3, h4, fun j c hc => ?_⟩
    · rw [if_neg (by omega)]
      rw [Option.map_some, Addr.add_lit]
    · rw [Nat.add_assoc o, ← Nat.add_mul]; exact h5 j c hc
theorem slAt_takeK {α : Type} {E : Rp α} {F : Nat → Prop} {w : World} {A : Option Addr} {cap : Nat} {xs : List α} (h : SlAt E F w A cap xs) (i : Nat) : SlAt E F w A cap (xs.take i) :=
  ⟨Nat.le_trans (List.length_take_le' i xs) h.le, h.mx, h.nil, fun j x hx => h.el j x (by
    rw [List.getElem?_take] at hx
    split at hx
    · exact hx
    · cases hx)⟩
theorem moved_calls (a n : Nat) (k : Int) (w : World) (ha : a ≤ 1000) (hn : n ≤ 1000) (hk : -1 ≤ k ∧ k ≤ 1000) : Calls Tryz.prog 10 #[.int .i64 k, .int .i64 a, .int .i64 n] w fun e w' => e = .returned (.int .i64 (mvd a n k)) ∧ w = w' := by
  by_cases h : (a : Int) ≤ k
  · have hm : mvd a n k = k + n := mvd_ge h
    rw [hm]
    have Hm := Lib.hid hm; clear hm
    go_enter Tryz.func10, Tryz.ntmps10
    go_wp2
    go_ret
    exact ⟨rfl, rfl⟩
  · have hm : mvd a n k = k := mvd_lt (by omega)
    rw [hm]
    have Hm := Lib.hid hm; clear hm
    go_enter Tryz.func10, Tryz.ntmps10
    go_wp2
    go_ret
    exact ⟨rfl, rfl⟩
theorem side_okK {f : Nat → Int} {ms : List Mod} {p : ByteArray} {k : Nat} (hck : checkF ms = 0) (hig : ignF p = true) (hk : k < ms.length) (hb : brkB (nameAt ms k) = false) : sideF f ms (k : Int) p = (f k, 0) := by
  have h : askedF ms (k : Int) p = 0 := by unfold askedF; rw [if_pos hck, Int.toNat_natCast, if_pos ⟨Int.natCast_nonneg _, by omega, hb⟩, if_pos hig]
  unfold sideF; rw [if_pos h, Int.toNat_natCast]
theorem brkB_noK {c : Int} (h1 : (c == 91) = false) (h2 : (c == 93) = false) : brkB c = false := by unfold brkB; rw [h1, h2]; rfl
theorem mvd_mvN (a n k : Nat) : mvd a n (k : Int) = ((mvN a n k : Nat) : Int) := by
  unfold mvd mvN
  by_cases h : a ≤ k
  · rw [if_pos h, if_pos (by omega)]; omega
  · rw [if_neg h, if_neg (by omega)]
set_option maxRecDepth 100000 in
set_option maxHeartbeats 16000000 in
theorem contextBranch_walk (A : Option Addr) (c : Nat) (ms : List Mod) (B : Option Addr) (cb : Nat) (br : List Mod) (at_ : Int) (p : ByteArray) (w : World) (h : SlAt pMod (Old w) w A c ms) (h1 : SlAt pMod (Old w) w B cb br) (hat : Fits .i64 at_) (hL : LibAt w) :
    Calls Tryz.prog 3 #[.slice A ms.length c, .slice B br.length cb, .int .i64 at_, .string p] w (OkPost w) := by
  have hmx := h.lenle
  have hmy := h1.lenle
  have hat' := hat.i64
  have H := Lib.hid h; clear h
  have H1 := Lib.hid h1; clear h1
  have HL := Lib.hid hL; clear hL
  have out : ∀ (W : World), Below w.heap.size w W → Calls Tryz.prog 7 #[] W fun e W' => e = .returned (.bool true) ∧ Hid (Below w.heap.size w W') := fun W hW => (aliveC_calls W (HL.out.later hW)).mono fun e W' hh => ⟨hh.1, hW.trans (hh.2.mono hW.size)⟩
  have v1 := validC_calls none 0 [] p A c ms w sl_none H.out
  have v2 := fun W (hW : Below w.heap.size w W) => validC_calls none 0 [] p B cb br W sl_none (H1.out.later hW)
  have Out := Lib.hid out; clear out
  have V1 := Lib.hid v1; clear v1
  have V2 := Lib.hid v2; clear v2
  cases hv : validC [] p ms
  · go_enter Tryz.func3, Tryz.ntmps3
    go_wp2_with fail
    refine V1.out.mono ?_
    rintro e w1 ⟨rfl, b1⟩
    rw [hv]
    go_wp2_with fail
    refine (Out.out w1 b1).mono ?_
    rintro e w2 ⟨rfl, b2⟩
    go_wp2
    go_ret
    exact ⟨rfl, b2.out⟩
  cases hv2 : validC [] p br
  · go_enter Tryz.func3, Tryz.ntmps3
    go_wp2_with fail
    refine V1.out.mono ?_
    rintro e w1 ⟨rfl, b1⟩
    rw [hv]
    have T1 := Lib.hid b1; clear b1
    go_wp2_with fail
    refine (V2.out w1 T1.out).mono ?_
    rintro e w2 ⟨rfl, b2⟩
    rw [hv2]
    have T2 := Lib.hid (T1.out.trans (b2.mono T1.out.size)); clear b2
    go_wp2_with fail
    refine (Out.out w2 T2.out).mono ?_
    rintro e w3 ⟨rfl, b3⟩
    go_wp2
    go_ret
    exact ⟨rfl, b3.out⟩
  by_cases hbad : 250 < ms.length ∨ (¬ 250 < ms.length ∧ (30 < br.length ∨ (¬ 30 < br.length ∧ (at_ < 0 ∨ (¬ at_ < 0 ∧ (ms.length : Int) < at_)))))
  · rcases hbad with q1 | ⟨q1, q2 | ⟨q2, q3 | ⟨q3, q4⟩⟩⟩
    all_goals
      go_enter Tryz.func3, Tryz.ntmps3
      go_wp2_with fail
      refine V1.out.mono ?_
      rintro e w1 ⟨rfl, b1⟩
      rw [hv]
      have T1 := Lib.hid b1; clear b1
      go_wp2_with fail
      refine (V2.out w1 T1.out).mono ?_
      rintro e w2 ⟨rfl, b2⟩
      rw [hv2]
      have T2 := Lib.hid (T1.out.trans (b2.mono T1.out.size)); clear b2
      go_wp2_with fail
      refine (Out.out w2 T2.out).mono ?_
      rintro e w3 ⟨rfl, b3⟩
      go_wp2
      go_ret
      exact ⟨rfl, b3.out⟩
  obtain ⟨a, rfl⟩ := Int.eq_ofNat_of_zero_le (show 0 ≤ at_ by omega)
  have ha : a ≤ ms.length := by omega
  have q1 : ¬ 250 < ms.length := by omega
  have q2 : ¬ 30 < br.length := by omega
  have q3 : ¬ (a : Int) < 0 := by omega
  have q4 : ¬ (ms.length : Int) < (a : Int) := by omega
  clear hbad hat'
  obtain ⟨_, hp, hcp, hl, hck⟩ := validC_yes hv
  obtain ⟨_, _, _, _, hckb⟩ := validC_yes hv2
  have hig : ignF p = true := (checkC_parts hcp).2.1
  have hp' : p.size ≤ 1000 := by omega
  have hckm := put_check ha hck hckb (by omega)
  have hlm := put_len (br := br) ha
  obtain ⟨N, hN⟩ : ∃ N, br.length + 2 = N := ⟨_, rfl⟩
  have hN32 : N ≤ 32 := by omega
  obtain ⟨M, hM⟩ : ∃ M, putF ms br a = M := ⟨_, rfl⟩
  have hlp := fun (k : Nat) => left_put (p := p) (i := k) ha hckb
  have hrp := fun (k : Nat) => right_put (p := p) (i := k) ha hckb
  have hnp := fun (k : Nat) => put_name (br := br) (i := k) ha
  have hcat : ((((([] : List Mod) ++ ms.take a) ++ [⟨91, []⟩]) ++ br) ++ [⟨93, []⟩]) ++ ms.drop a = M := by rw [← hM]; unfold putF; simp
  rw [hM] at hckm hlm
  simp only [hM, hN] at hlp hrp hnp
  rw [hN] at hlm
  obtain ⟨X, hX⟩ : ∃ X, ms.take a = X := ⟨_, rfl⟩
  obtain ⟨Y, hY⟩ : ∃ Y, ms.drop a = Y := ⟨_, rfl⟩
  rw [hX, hY] at hcat
  have htk : X.length = a := by rw [← hX, List.length_take]; omega
  have hdr : Y.length = ms.length - a := by rw [← hY, List.length_drop]
  -- lengths of the five lists
  have n1 : (([] : List Mod) ++ X).length = a := by rw [List.nil_append]; exact htk
  have n2 : (([] : List Mod) ++ X).length + 1 = a + 1 := by rw [n1]
  have n3 : (((([] : List Mod) ++ X) ++ [(⟨91, []⟩ : Mod)]) ++ br).length = a + 1 + br.length := by simp; omega
  have n4 : (((([] : List Mod) ++ X) ++ [(⟨91, []⟩ : Mod)]) ++ br).length + 1 = a + 1 + br.length + 1 := by rw [n3]
  have n5 : ((((([] : List Mod) ++ X) ++ [(⟨91, []⟩ : Mod)]) ++ br) ++ [(⟨93, []⟩ : Mod)] ++ Y).length = M.length := by rw [hcat]
  have r1 : Room a := room_of (by omega)
  have r2 : Room (([] : List Mod) ++ X).length := room_of (by rw [n1]; omega)
  have r3 : Room (a + 1 + br.length) := room_of (by omega)
  have r4 : Room (((([] : List Mod) ++ X) ++ [(⟨91, []⟩ : Mod)]) ++ br).length := room_of (by rw [n3]; omega)
  have r5 : Room M.length := room_of (by omega)
  obtain ⟨Ad, hAd⟩ : ∃ Ad, (if c = a then A else A.map (·.add (a * 2))) = Ad := ⟨_, rfl⟩
  have sA : ∀ W, Below w.heap.size w W → SlAt pMod (Old w) W A c X := fun W hW => by rw [← hX]; exact slAt_takeK (H.out.below hW) a
  have sB : ∀ W, Below w.heap.size w W → SlAt pMod (Old w) W B cb br := fun W hW => H1.out.below hW
  have sD : ∀ W, Below w.heap.size w W → SlAt pMod (Old w) W Ad (c - a) Y := fun W hW => by rw [← hAd, ← hY]; exact slAt_cutK (H.out.below hW) ha
  have fF : ∀ (b0 : Nat) (W : World) (v : Value) (xs : List Mod), w.heap.size ≤ b0 → Below w.heap.size w W → Own pMod 27 b0 (Old w) W v xs → ∀ k, Old w k → Old w k ∧ k < W.heap.size ∧ some k ≠ v.ownBlock := fun b0 W v xs hb0 hW ho k hk => ⟨hk, by have := hW.size; have : k < w.heap.size := hk; omega, fun e => by have := ho.lt k e.symm; have : k < w.heap.size := hk; omega⟩
  have m91 : ∀ W, pMod.R (fun _ => False) W (Value.agg #[.int .u8 91, .slice none 0 0]).cells.toList ⟨91, []⟩ := fun W => ⟨none, 0, rfl, fits_u8 (n := 91) (by decide), sl_none⟩
  have m93 : ∀ W, pMod.R (fun _ => False) W (Value.agg #[.int .u8 93, .slice none 0 0]).cells.toList ⟨93, []⟩ := fun W => ⟨none, 0, rfl, fits_u8 (n := 93) (by decide), sl_none⟩
  have a0 : (0 : Int) ≤ (a : Int) := Int.natCast_nonneg _
  have a1 : (a : Int) ≤ (ms.length : Int) := by omega
  have hNi : (br.length : Int) + 2 = (N : Int) := by omega
  have acap : a ≤ c := by omega
  have lfc := fun (k : Nat) (W : World) (hW : Below w.heap.size w W) => left_calls A c ms (k : Int) p W (H.out.later hW)
  have rtc := fun (k : Nat) (W : World) (hW : Below w.heap.size w W) => right_calls A c ms (k : Int) p W (H.out.later hW)
  have hcase : (c = 0 ∧ ms = [] ∧ a = 0 ∧ Ad = A) ∨ (¬ c = 0 ∧ ms = [] ∧ a = 0 ∧ ∃ ad, A = some ad ∧ Ad = some (ad.add 0)) ∨ (¬ c = 0 ∧ ∃ b o Ae, A = some ⟨b, o, none⟩ ∧ (if c = a then some ⟨b, o, none⟩ else some ⟨b, o + a * 2, none⟩ : Option Addr) = some Ae ∧ Ad = some Ae) := by
    by_cases hc0 : c = 0
    · have hm0 : ms = [] := List.eq_nil_of_length_eq_zero (by omega)
      have ha0 : a = 0 := by omega
      refine .inl ⟨hc0, hm0, ha0, ?_⟩
      rw [← hAd, if_pos (by omega)]
    · refine .inr ?_
      by_cases hm0 : ms = []
      · have ha0 : a = 0 := by
          have h0 : ms.length = 0 := by rw [hm0]; rfl
          omega
        refine .inl ⟨hc0, hm0, ha0, ?_⟩
        cases hA : A with
        | none => exact absurd (H.out.nil hA) hc0
        | some ad =>
          rw [hA, if_neg (by omega), ha0] at hAd
          exact ⟨ad, rfl, by rw [← hAd]; rfl⟩
      · refine .inr ⟨hc0, ?_⟩
        obtain ⟨b, o, _, _, _, _, hA, _⟩ := H.out.getMod (i := 0) (List.length_pos_iff.2 hm0)
        rw [hA] at hAd
        by_cases hca : c = a
        · rw [if_pos hca] at hAd
          exact ⟨b, o, ⟨b, o, none⟩, hA, by rw [if_pos hca], hAd.symm⟩
        · rw [if_neg hca] at hAd
          exact ⟨b, o, ⟨b, o + a * 2, none⟩, hA, by rw [if_neg hca], by rw [← hAd, Option.map_some, Addr.add_lit]⟩
  have HX := Lib.hid hX; clear hX
  have HY := Lib.hid hY; clear hY
  have Hcp := Lib.hid hcp; clear hcp
  have Hck := Lib.hid hck; clear hck
  have Hckb := Lib.hid hckb; clear hckb
  have Hig := Lib.hid hig; clear hig
  have Hckm := Lib.hid hckm; clear hckm
  have Hlm := Lib.hid hlm; clear hlm
  have HN := Lib.hid hN; clear hN
  have HM := Lib.hid hM; clear hM
  have Hlp := Lib.hid hlp; clear hlp
  have Hrp := Lib.hid hrp; clear hrp
  have Hnp := Lib.hid hnp; clear hnp
  have Hcat := Lib.hid hcat; clear hcat
  have Htk := Lib.hid htk; clear htk
  have Hdr := Lib.hid hdr; clear hdr
  have N1 := Lib.hid n1; clear n1
  have N2 := Lib.hid n2; clear n2
  have N3 := Lib.hid n3; clear n3
  have N4 := Lib.hid n4; clear n4
  have N5 := Lib.hid n5; clear n5
  have R1 := Lib.hid r1; clear r1
  have R2 := Lib.hid r2; clear r2
  have R3 := Lib.hid r3; clear r3
  have R4 := Lib.hid r4; clear r4
  have R5 := Lib.hid r5; clear r5
  have HAd := Lib.hid hAd; clear hAd
  have SA := Lib.hid sA; clear sA
  have SB := Lib.hid sB; clear sB
  have SD := Lib.hid sD; clear sD
  have FF := Lib.hid fF; clear fF
  have M91 := Lib.hid m91; clear m91
  have M93 := Lib.hid m93; clear m93
  have HNi := Lib.hid hNi; clear hNi
  have Lfc := Lib.hid lfc; clear lfc
  have Rtc := Lib.hid rtc; clear rtc
  go_enter Tryz.func3, Tryz.ntmps3
  go_wp2_with fail
  refine V1.out.mono ?_
  rintro e w1 ⟨rfl, b1⟩
  rw [hv]
  have T1 := Lib.hid b1; clear b1
  go_wp2_with fail
  refine (V2.out w1 T1.out).mono ?_
  rintro e w2 ⟨rfl, b2⟩
  rw [hv2]
  have T2 := Lib.hid (T1.out.trans (b2.mono T1.out.size)); clear b2
  clear hv hv2
  have z2 := T2.out.size
  obtain ⟨W2, hW2⟩ : ∃ W2, W2 = w2.alloc (.cells #[] 27) := ⟨_, rfl⟩
  have tw : Below w.heap.size w W2 := by rw [hW2]; exact T2.out.alloc z2 _
  have zw : w2.heap.size ≤ W2.heap.size := by rw [hW2]; simp
  have hem : Own pMod 27 w2.heap.size (Old w) W2 (.slice (some ⟨w2.heap.size, 0, none⟩) 0 0) ([] : List Mod) := by rw [hW2]; exact Own.empty (Nat.le_refl _)
  have Tw := Lib.hid tw; clear tw
  have Hem := Lib.hid hem; clear hem
  rcases hcase with ⟨rfl, rfl, rfl, rfl⟩ | ⟨hc0, rfl, rfl, ad, rfl, rfl⟩ | ⟨hc0, b, o, Ae, rfl, hAe, rfl⟩
  all_goals
    go_wp2_with (first
      | (at_builtin; rw [← hW2]; refine wpList_catG (E := pMod) (xs := []) (base := w2.heap.size) (G := Old w) 22 27 (.agg #[.int .u8 0, .slice none 0 0]) 32 (.tmp 51) (.tmp 54) rfl rfl Tryz.underlying22 info_mod rfl (by decide) rfl Hem.out _ _ X (Eq.trans rfl (congrArg (fun n => Value.slice _ n _) Htk.out.symm)) (Old w) (SA.out _ Tw.out) (FF.out w2.heap.size _ _ _ z2 Tw.out Hem.out) _ N1.out R1.out (by decide) (Nat.le_trans zw (Nat.le_refl _)) ?_; intro A3 c3 w3 hown3 hg3; have T3 := Lib.hid (Tw.out.trans (hg3.out.bel.mono z2)); have zz3 : w2.heap.size ≤ w3.heap.size := Nat.le_trans zw hg3.out.bel.size)
      | ((with_reducible show wpList _ _ _ (Oper.mk (some 58) _ _ _ _ _ :: _) _ _); refine wpList_pushG (E := pMod) (xs := ([] ++ X)) (base := w2.heap.size) (G := Old w) 22 27 (.agg #[.int .u8 0, .slice none 0 0]) 32 58 (.tmp 56) (.tmp 57) rfl rfl rfl rfl rfl Tryz.underlying22 info_mod rfl (by decide) (fun _ => rfl) (fun _ => rfl) hown3.out (.agg #[.int .u8 91, .slice none 0 0]) rfl ⟨91, []⟩ (fun _ => False) (M91.out _) (fun _ hh => hh.elim) _ N2.out R2.out ⟨by decide, by decide⟩ zz3 ?_; intro A4 c4 w4 hown4 hg4; have T4 := Lib.hid (T3.out.trans (hg4.out.bel.mono z2)); have zz4 : w2.heap.size ≤ w4.heap.size := Nat.le_trans zz3 hg4.out.bel.size)
      | (at_builtin;  refine wpList_catG (E := pMod) (xs := (([] ++ X) ++ [(⟨91, []⟩ : Mod)])) (base := w2.heap.size) (G := Old w) 22 27 (.agg #[.int .u8 0, .slice none 0 0]) 32 (.tmp 60) (.tmp 61) rfl rfl Tryz.underlying22 info_mod rfl (by decide) rfl hown4.out _ _ br rfl (Old w) (SB.out _ T4.out) (FF.out w2.heap.size _ _ _ z2 T4.out hown4.out) _ N3.out R3.out (by decide) (Nat.le_trans zz4 (Nat.le_refl _)) ?_; intro A5 c5 w5 hown5 hg5; have T5 := Lib.hid (T4.out.trans (hg5.out.bel.mono z2)); have zz5 : w2.heap.size ≤ w5.heap.size := Nat.le_trans zz4 hg5.out.bel.size)
      | ((with_reducible show wpList _ _ _ (Oper.mk (some 65) _ _ _ _ _ :: _) _ _); refine wpList_pushG (E := pMod) (xs := ((([] ++ X) ++ [(⟨91, []⟩ : Mod)]) ++ br)) (base := w2.heap.size) (G := Old w) 22 27 (.agg #[.int .u8 0, .slice none 0 0]) 32 65 (.tmp 63) (.tmp 64) rfl rfl rfl rfl rfl Tryz.underlying22 info_mod rfl (by decide) (fun _ => rfl) (fun _ => rfl) hown5.out (.agg #[.int .u8 93, .slice none 0 0]) rfl ⟨93, []⟩ (fun _ => False) (M93.out _) (fun _ hh => hh.elim) _ N4.out R4.out ⟨by decide, by decide⟩ zz5 ?_; intro A6 c6 w6 hown6 hg6; have T6 := Lib.hid (T5.out.trans (hg6.out.bel.mono z2)); have zz6 : w2.heap.size ≤ w6.heap.size := Nat.le_trans zz5 hg6.out.bel.size)
      | (at_builtin;  refine wpList_catG (E := pMod) (xs := (((([] ++ X) ++ [(⟨91, []⟩ : Mod)]) ++ br) ++ [(⟨93, []⟩ : Mod)])) (base := w2.heap.size) (G := Old w) 22 27 (.agg #[.int .u8 0, .slice none 0 0]) 32 (.tmp 67) (.tmp 70) rfl rfl Tryz.underlying22 info_mod rfl (by decide) rfl hown6.out _ _ Y (Eq.trans rfl (congrArg (fun n => Value.slice _ n _) Hdr.out.symm)) (Old w) (SD.out _ T6.out) (FF.out w2.heap.size _ _ _ z2 T6.out hown6.out) _ N5.out R5.out (by decide) (Nat.le_trans zz6 (Nat.le_refl _)) ?_; intro A7 c7 w7 hown7 hg7; have T7 := Lib.hid (T6.out.trans (hg7.out.bel.mono z2)); have zz7 : w2.heap.size ≤ w7.heap.size := Nat.le_trans zz6 hg7.out.bel.size))
    have hown := hown7.out
    rw [Hcat.out] at hown
    have S7 := Lib.hid ((hown.sl'.2).wide (F' := Old w7) fun q hq => hq.2)
    clear hown hown7 hg7 T3 T4 T5 T6 zz3 zz4 zz5 zz6 hown3 hown4 hown5 hown6 hg3 hg4 hg5 hg6
  · go_loopw [11] (fun i wr => i = .int .i64 0 ∧ Hid (Below w.heap.size w wr)) (fun i _ => 0)
    case atStart => exact ⟨rfl, T7⟩
    case round =>
      obtain ⟨rfl, hb⟩ := hrel
      go_wp2_with fail
      refine (Out.out _ hb.out).mono ?_
      rintro e w8 ⟨rfl, b8⟩
      go_wp2
      go_ret
      exact ⟨rfl, b8.out⟩
  · go_loopw [11] (fun i wr => i = .int .i64 0 ∧ Hid (Below w.heap.size w wr)) (fun i _ => 0)
    case atStart => exact ⟨rfl, T7⟩
    case round =>
      obtain ⟨rfl, hb⟩ := hrel
      go_wp2_with fail
      refine (Out.out _ hb.out).mono ?_
      rintro e w8 ⟨rfl, b8⟩
      go_wp2
      go_ret
      exact ⟨rfl, b8.out⟩
  · clear hAe
    have z7 := T7.out.size
    go_loopw [11] (fun i wr => ∃ k : Nat, k ≤ ms.length ∧ i = .int .i64 k ∧ w7.heap.size ≤ wr.heap.size ∧ Hid (Below w7.heap.size w7 wr)) (fun i _ => ms.length - (intOf i).toNat)
    case atStart => exact ⟨0, Nat.zero_le _, rfl, Nat.le_refl _, Below.refl _ _⟩
    case round =>
      obtain ⟨k, hk, rfl, hsz, hb⟩ := hrel
      obtain ⟨wo, rfl⟩ : ∃ wo : World, wo = wr := ⟨_, rfl⟩
      have hbw := T7.out.trans (hb.out.mono z7)
      by_cases hlt : k < ms.length
      case neg =>
        have Hbw := Lib.hid hbw; clear hbw
        go_wp2_with fail
        refine (Out.out wo Hbw.out).mono ?_
        rintro e w8 ⟨rfl, b8⟩
        go_wp2
        go_ret
        exact ⟨rfl, b8.out⟩
      case pos =>
      obtain ⟨b', o', D, d, m, hd, hA, hob, q0, q1', hx8, hxa, hxl⟩ := (H.out.below hbw).getMod hlt
      injection hA with hA
      injection hA with e1 e2 _
      subst e1 e2
      have hnm := nameAt_drop hd.out
      cases h91 : (m.name == 91)
      case true =>
        have Hd := Lib.hid hd; clear hd
        have Hnm := Lib.hid hnm; clear hnm
        have Hbw := Lib.hid hbw; clear hbw
        go_wp2
        go_roundw
        case rel => exact ⟨k + 1, hlt, by go_num, hsz, hb⟩
        case measure => simp [intOf]; omega
      case false =>
      cases h93 : (m.name == 93)
      case true =>
        have Hd := Lib.hid hd; clear hd
        have Hnm := Lib.hid hnm; clear hnm
        have Hbw := Lib.hid hbw; clear hbw
        go_wp2
        go_roundw
        case rel => exact ⟨k + 1, hlt, by go_num, hsz, hb⟩
        case measure => simp [intOf]; omega
      case false =>
      have hbk : brkB (nameAt ms k) = false := by rw [hnm]; exact brkB_noK h91 h93
      have hmk : mvN a N k < M.length := by rw [Hlm.out]; unfold mvN; split <;> omega
      have hmb : brkB (nameAt M (mvN a N k)) = false := by rw [Hnp.out]; exact hbk
      have lr := leftF_rng p ms k
      have rr := rightF_rng p ms k hlt
      have c1 := Lfc.out k wo hbw (fits_i64 (by omega)) hp'
      rw [side_okK Hck.out Hig.out hlt hbk] at c1
      have c2 := fun W hW => Rtc.out k W hW (fits_i64 (by omega)) hp'
      rw [side_okK Hck.out Hig.out hlt hbk] at c2
      have c4 := fun W (hW : Below w7.heap.size w7 W) => left_calls A7 c7 M ((mvN a N k : Nat) : Int) p W (S7.out.later hW) (fits_i64 (by unfold mvN; split <;> omega)) hp'
      rw [side_okK Hckm.out Hig.out hmk hmb, Hlp.out] at c4
      have c6 := fun W (hW : Below w7.heap.size w7 W) => right_calls A7 c7 M ((mvN a N k : Nat) : Int) p W (S7.out.later hW) (fits_i64 (by unfold mvN; split <;> omega)) hp'
      rw [side_okK Hckm.out Hig.out hmk hmb, Hrp.out] at c6
      obtain ⟨Lv, hLv⟩ : ∃ x, leftF p ms k = x := ⟨_, rfl⟩
      obtain ⟨Rv, hRv⟩ : ∃ x, rightF p ms k = x := ⟨_, rfl⟩
      rw [hLv] at c1 c4 lr
      simp only [hRv] at c2 c6 rr
      have mk := fun W => moved_calls a N (k : Int) W (by omega) (by omega) (by omega)
      have ml := fun W => moved_calls a N Lv W (by omega) (by omega) (by omega)
      have mr := fun W => moved_calls a N Rv W (by omega) (by omega) (by omega)
      rw [mvd_mvN] at mk
      obtain ⟨ML, hML⟩ : ∃ x, mvd a N Lv = x := ⟨_, rfl⟩
      obtain ⟨MR, hMR⟩ : ∃ x, mvd a N Rv = x := ⟨_, rfl⟩
      rw [hML] at ml
      rw [hMR] at mr
      simp only [hML] at c4
      simp only [hMR] at c6
      obtain ⟨Kn, hKn⟩ : ∃ x, mvN a N k = x := ⟨_, rfl⟩
      simp only [hKn] at mk c4 c6
      rw [← HNi.out] at mk ml mr
      have eL : (ML != ML) = false := bne_self_eq_false ML
      have eR : (MR != MR) = false := bne_self_eq_false MR
      have k0 : (0 : Int) ≤ (k : Int) := Int.natCast_nonneg _
      have k1 : (k : Int) < (ms.length : Int) := by omega
      clear lr rr
      have C1 := Lib.hid c1; clear c1
      have C2 := Lib.hid c2; clear c2
      have C4 := Lib.hid c4; clear c4
      have C6 := Lib.hid c6; clear c6
      have Mk := Lib.hid mk; clear mk
      have Ml := Lib.hid ml; clear ml
      have Mr := Lib.hid mr; clear mr
      have HLv := Lib.hid hLv; clear hLv
      have HRv := Lib.hid hRv; clear hRv
      have HML := Lib.hid hML; clear hML
      have HMR := Lib.hid hMR; clear hMR
      have HKn := Lib.hid hKn; clear hKn
      have Hmk := Lib.hid hmk; clear hmk
      have Hmb := Lib.hid hmb; clear hmb
      have Hbk := Lib.hid hbk; clear hbk
      have Hd := Lib.hid hd; clear hd
      have Hnm := Lib.hid hnm; clear hnm
      go_wp2_with fail
      refine C1.out.mono ?_
      rintro e w8 ⟨rfl, b8⟩
      have B8 := Lib.hid (hb.out.trans (b8.mono hsz)); clear b8
      have T8 := Lib.hid (T7.out.trans (B8.out.mono z7))
      clear q0 q1' hbw
      go_wp2_with fail
      refine (C2.out w8 T8.out).mono ?_
      rintro e w9 ⟨rfl, b9⟩
      have B9 := Lib.hid (B8.out.trans (b9.mono B8.out.size)); clear b9
      go_wp2_with ((go_at_call 10; with_reducible (refine (Mk.out _).mono ?_); rintro e w' ⟨rfl, rfl⟩))
      refine (C4.out w9 B9.out).mono ?_
      rintro e w10 ⟨rfl, b10⟩
      have B10 := Lib.hid (B9.out.trans (b10.mono B9.out.size)); clear b10
      go_wp2_with ((go_at_call 10; with_reducible (refine (Mk.out _).mono ?_); rintro e w' ⟨rfl, rfl⟩))
      refine (C6.out w10 B10.out).mono ?_
      rintro e w11 ⟨rfl, b11⟩
      have B11 := Lib.hid (B10.out.trans (b11.mono B10.out.size)); clear b11
      go_wp2_with (first | (go_at_call 10; with_reducible (refine (Ml.out _).mono ?_); rintro e w' ⟨rfl, rfl⟩) | (go_at_call 10; with_reducible (refine (Mr.out _).mono ?_); rintro e w' ⟨rfl, rfl⟩))
      go_roundw
      case rel => exact ⟨k + 1, hlt, by go_num, B11.out.size, B11⟩
      case measure => simp [intOf]; omega
end Go.Proofs.YtpeknefmjdipmaaGreatDoor
