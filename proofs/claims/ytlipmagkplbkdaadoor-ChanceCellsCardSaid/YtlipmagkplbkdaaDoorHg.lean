/-
  Layer 9: the walk of the reference's Begin.
-/
import Derived.Test.YtlipmagkplbkdaaDoorHf
import Derived.Test.YtlipmagkplbkdaaDoorHp
namespace Go.Proofs.YtlipmagkplbkdaaDoor
open Go.RowKit
set_option linter.unusedVariables false

theorem decC_calls (k : Nat) (w : World) (hk : k ≤ 1000000) : Calls Tryd.prog 46 #[.int .i64 k] w fun e w' => e = .returned (.string (itoaB k)) ∧ w = w' :=
  decimal_calls (k : Int) ⟨by omega, by omega⟩ w

set_option maxRecDepth 100000 in
set_option maxHeartbeats 4000000 in
theorem refBegin_calls (A : Option Addr) (c : Nat) (ms : List Mod) (w : World) (h : SlAt pMod (Old w) w A c ms) (hbd : ms.length ≤ 10000) (hbd2 : ∀ m ∈ ms, m.args.length ≤ 1000) :
    Calls Tryd.prog 18 #[.slice A ms.length c] w (BeginPost (beginR ms) w) := by
  have hmx := h.lenle
  have hck := fun W (hb : Below w.heap.size w W) => refCheck_calls A c ms W (h.later hb)
  have H := Lib.hid h; clear h
  have Hck := Lib.hid hck; clear hck
  have Hbd2 := Lib.hid hbd2; clear hbd2
  by_cases h0 : checkF ms = 0
  · have hr : beginR ms = (beginL ms, 0) := by unfold beginR; rw [if_pos h0]
    have hck : Calls Tryd.prog 38 #[.slice A ms.length c] w fun e w' => e = .returned (.int .i64 0) ∧ Below w.heap.size w w' := by
      have := Hck.out w (Below.refl _ _)
      unfold CheckPost at this
      rwa [h0] at this
    clear h0 Hck
    have Hr := Lib.hid hr; clear hr
    have Hck := Lib.hid hck; clear hck
    go_enter Tryd.func18, Tryd.ntmps18
    go_wp2_with fail
    refine Hck.out.mono ?_
    rintro e w1 ⟨rfl, hb1⟩
    have htw := refTwin_calls A c ms w1 (H.out.later hb1) hbd Hbd2.out
    have hz1 := hb1.size
    have Htw := Lib.hid htw; clear htw
    have Hb1 := Lib.hid hb1; clear hb1
    go_wp2_with fail
    refine Htw.out.mono ?_
    rintro e w2 ⟨A2, c2, rfl, hs2, hb2⟩
    have hs2' : SlAt pMod (Old w2) w2 A2 c2 ms := hs2.sl'.2.wide fun q hq => hq.2
    have hbw := Hb1.out.trans (hb2.mono hz1)
    have hz2 := hbw.size
    have Hs2' := Lib.hid hs2'; clear hs2'
    have Hbw := Lib.hid hbw; clear hbw
    clear hs2 hb2 Htw
    go_wp2
    go_loopw [5, 4] (fun i out wr => ∃ k : Nat, k ≤ ms.length ∧ i = .int .i64 k ∧ Hid (Below w2.heap.size w2 wr) ∧ w2.heap.size ≤ wr.heap.size ∧ ∃ A' c', out = .slice A' k c' ∧ Hid (Own pCel 51 w2.heap.size (fun _ => True) wr out ((beginL ms).take k))) (fun i _ _ => ms.length - (intOf i).toNat)
    case atStart => exact ⟨0, Nat.zero_le _, rfl, Below.refl _ _, Nat.le_refl _, none, 0, rfl, Own.nil⟩
    case round =>
      obtain ⟨k, hk, rfl, hb, hsz, Ao, co, rfl, hown⟩ := hrel
      obtain ⟨wo, rfl⟩ : ∃ wo : World, wo = wr := ⟨_, rfl⟩
      by_cases hlt : k < ms.length
      · obtain ⟨b, o, A', c', m, hd, rfl, hob, k0, k1, hf8, hargs, hal⟩ := (Hs2'.out.below hb.out).getMod hlt
        have hob' : b < wo.heap.size := Nat.lt_of_lt_of_le hob hsz
        obtain ⟨it, hit⟩ : ∃ it, itoaB k = it := ⟨_, rfl⟩
        have his : it.size ≤ 21 := by rw [← hit]; exact itoaB_size (by omega)
        have hcel : celI k m = ⟨it, m⟩ := by unfold celI; rw [hit]
        have hcall : ∀ W : World, Calls Tryd.prog 46 #[.int .i64 k] W fun e w' => e = .returned (.string it) ∧ W = w' := fun W => by
          have := decC_calls k W (by omega)
          rwa [hit] at this
        have hd0 : Below wo.heap.size wo wo.drew := below_drew (Below.refl _ _)
        have hown2 : Own pCel 51 w2.heap.size (fun _ => True) (wo.drew.alloc (.cells #[.string it, .int .u8 m.name, .slice A' m.args.length c'] 51)) (.slice Ao k co) ((beginL ms).take k) := (hown.out.later hd0).alloc _
        have hsl2 : SlAt pCel (fun q => Old w2 q ∨ q = wo.drew.heap.size) (wo.drew.alloc (.cells #[.string it, .int .u8 m.name, .slice A' m.args.length c'] 51)) (some ⟨wo.drew.heap.size, 0, none⟩) 1 [(⟨it, m⟩ : Cel)] := by
          refine sl_boxed (u := .agg #[.string it, .int .u8 m.name, .slice A' m.args.length c']) (F := Old w2) ⟨A', c', rfl, ?_, hf8, hargs.out.keep fun q hq => rfl⟩ fun q hq => Nat.lt_of_lt_of_le hq hsz
          show it.size ≤ maxLen
          unfold maxLen; omega
        have hFq : ∀ q, (Old w2 q ∨ q = wo.drew.heap.size) → True ∧ q < (wo.drew.alloc (.cells #[.string it, .int .u8 m.name, .slice A' m.args.length c'] 51)).heap.size ∧ some q ≠ (Value.slice Ao k co).ownBlock := fun q hq => by
          have hz0 : wo.drew.heap.size = wo.heap.size := rfl
          rcases hq with hq | hq
          · have hq' : q < w2.heap.size := hq
            refine ⟨trivial, by simp; omega, fun he => ?_⟩
            have := (hown.out.lt q he.symm).1
            omega
          · subst hq
            refine ⟨trivial, by simp, fun he => ?_⟩
            have := (hown.out.lt _ he.symm).2
            omega
        have hB : w2.heap.size ≤ (wo.drew.alloc (.cells #[.string it, .int .u8 m.name, .slice A' m.args.length c'] 51)).heap.size := by
          have hz0 : wo.drew.heap.size = wo.heap.size := rfl
          simp; omega
        have hlk : ((beginL ms).take k ++ [(⟨it, m⟩ : Cel)]).length = k + 1 := by have := beginL_len ms; simp; omega
        have hrk : Room (k + 1) := room_of (by omega)
        have htk : (beginL ms).take (k + 1) = (beginL ms).take k ++ [⟨it, m⟩] := by rw [beginL_take hd.out, hcel]
        have kp2 : ∀ (wz : World) (v' : Value), Hid (Grew w2.heap.size (wo.drew.alloc (.cells #[.string it, .int .u8 m.name, .slice A' m.args.length c'] 51)) wz (.slice Ao k co) v') → wz.cell? ⟨b, o + k * 2, none⟩ = some (.int .u8 m.name) ∧ wz.cell? ⟨b, o + k * 2 + 1, none⟩ = some (.slice A' m.args.length c') := fun wz v' hgz => by
          have hb2' : b < w2.heap.size := hob
          have e : wz.heap[b]? = wo.heap[b]? := (hgz.out.oth _ (by simp; exact Nat.lt_succ_of_lt hob') fun he => by have := (hown.out.lt _ he.symm).1; omega).trans (Below.heap_alloc wo.drew _ _ hob')
          exact ⟨(cell_keep e).trans k0, (cell_keep e).trans k1⟩
        have hrest : ∀ (wz : World) (v' : Value), Hid (Grew w2.heap.size (wo.drew.alloc (.cells #[.string it, .int .u8 m.name, .slice A' m.args.length c'] 51)) wz (.slice Ao k co) v') → Below w2.heap.size w2 wz := fun wz v' hgz =>
          ((hb.out.trans (hd0.mono hsz)).alloc hsz _).trans hgz.out.bel
        have hk0 : (0 : Int) ≤ (k : Int) := Int.natCast_nonneg _
        have hk1 : (k : Int) < (ms.length : Int) := by omega
        have Hcall := Lib.hid hcall; clear hcall
        have Hown2 := Lib.hid hown2; clear hown2
        have Hsl2 := Lib.hid hsl2; clear hsl2
        have HFq := Lib.hid hFq; clear hFq
        have HB := Lib.hid hB; clear hB
        have Hlk := Lib.hid hlk; clear hlk
        have Hrk := Lib.hid hrk; clear hrk
        have Htk := Lib.hid htk; clear htk
        have Kp2 := Lib.hid kp2; clear kp2
        have Hrest := Lib.hid hrest; clear hrest
        clear hargs hd hcel hit hf8 hd0
        go_wp2_with fail
        go_region_held3 (fun w' => w'.cell? ⟨b, o + k * 2, none⟩ = some (.int .u8 m.name) ∧ w'.cell? ⟨b, o + k * 2 + 1, none⟩ = some (.slice A' m.args.length c'))
          (first | go_keep | exact Kp2.out _ _ hgz)
          (first
            | (go_at_call 46; with_reducible refine (Hcall.out _).mono ?_; rintro e wv ⟨rfl, rfl⟩)
            | (refine step_catG (E := pCel) (xs := (beginL ms).take k) (base := w2.heap.size) (G := fun _ => True) 26 51 (.agg #[.string ByteArray.empty, .int .u8 0, .slice none 0 0]) 48 (.tmp 19) (.tmp 27) rfl rfl Tryd.underlying26 info_cel rfl (by decide) rfl Hown2.out _ 1 [⟨it, m⟩] rfl _ Hsl2.out HFq.out (k + 1) Hlk.out Hrk.out (by decide) HB.out ?_; intro Az cz wz hoz hgz))
        have hbz := Hrest.out _ _ hgz
        have hzz := hbz.size
        have Hbz := Lib.hid hbz; clear hbz
        clear Hsl2 Hown2 Kp2 hgz HB HFq Hrest
        go_wp2
        go_roundw
        case rel =>
          refine ⟨k + 1, by omega, by go_num, Hbz, hzz, Az, cz, rfl, ?_⟩
          unfold Hid; rw [Htk.out]; exact hoz.out
        case measure => simp [intOf]; omega
      · obtain rfl : k = ms.length := by omega
        have hl := beginL_len ms
        have ho := hown.out
        rw [List.take_of_length_le (by omega)] at ho
        have hs : SlAt pCel (Old wo) wo Ao co (beginL ms) := ho.sl'.2.wide fun q hq => hq.2
        have hbz := Hbw.out.trans (hb.out.mono hz2)
        have Hs := Lib.hid hs; clear hs
        have Hbz := Lib.hid hbz; clear hbz
        clear ho
        generalize beginL ms = L at Hr hl Hs
        have Hl := Lib.hid hl; clear hl
        go_wp2
        go_ret2
        rw [Hr.out]
        refine ⟨Ao, co, ?_, Hs.out, Hbz.out⟩
        show Ending.returned (.tuple #[.slice Ao ms.length co, .int .i64 0]) = _
        rw [Hl.out]
  · have hr : beginR ms = ([], checkF ms) := by unfold beginR; rw [if_neg h0]
    have e0 : (checkF ms != 0) = true := by simp [h0]
    unfold CheckPost at Hck
    generalize checkF ms = x at Hck hr e0
    clear h0
    have Hr := Lib.hid hr; clear hr
    go_enter Tryd.func18, Tryd.ntmps18
    go_wp2_with fail
    refine (Hck.out _ (Below.refl _ _)).mono ?_
    rintro e w1 ⟨rfl, hb1⟩
    have hc2 := Hck.out w1 hb1
    have hz1 := hb1.size
    have Hb1 := Lib.hid hb1; clear hb1
    have Hc2 := Lib.hid hc2; clear hc2
    go_wp2_with fail
    refine Hc2.out.mono ?_
    rintro e w2 ⟨rfl, hb2⟩
    have hbw := Hb1.out.trans (hb2.mono hz1)
    have Hbw := Lib.hid hbw; clear hbw
    go_wp2
    go_ret2
    exact beginPost_none Hr.out Hbw.out
end Go.Proofs.YtlipmagkplbkdaaDoor
