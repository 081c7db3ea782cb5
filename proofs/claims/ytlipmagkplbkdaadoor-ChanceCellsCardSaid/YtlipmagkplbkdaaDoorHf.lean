/-
  Layer 9: the walks of Begin on both sides.
-/
import Derived.Test.YtlipmagkplbkdaaDoorHe
import Derived.Deep.RegionHeld3
import Derived.Lib.ItoaLen
namespace Go.Proofs.YtlipmagkplbkdaaDoor
open Go.RowKit
set_option linter.unusedVariables false

def TabAt (w : World) : Prop := Lib.TabIs Tryd.prog w "internal/strconv.uint64pow10" .u64 Lib.pow10Tab
def GAt (w : World) : Prop := ∃ g, Tryd.prog.globalNamed "internal/strconv.uint64pow10" = some g ∧ g < w.heap.size
theorem TabAt.later {w w' : World} (h : TabAt w) (hb : Below w.heap.size w w') (hg : GAt w) : TabAt w' := by
  obtain ⟨g, h1, h2⟩ := hg
  exact var?_below hb h1 h2 h
theorem GAt.later {w w' : World} (h : GAt w) (hb : Below w.heap.size w w') : GAt w' := by
  obtain ⟨g, h1, h2⟩ := h
  exact ⟨g, h1, Nat.lt_of_lt_of_le h2 hb.size⟩
def itoaB (k : Nat) : ByteArray := ⟨(Lib.itoa (k : Int)).toArray⟩
theorem itoaB_size {k : Nat} (h : k ≤ 1000000) : (itoaB k).size ≤ 21 := by
  have h1 := Lib.itoa_length_le (k : Int) (by omega) (by omega)
  have h2 : (itoaB k).size = (Lib.itoa (k : Int)).length := by show (Lib.itoa (k : Int)).toArray.size = _; simp
  omega
theorem below_grow2 (w : World) (k : Nat) (os : Array Obj) : Below w.heap.size w (Go.Sort.grow (w.drewN k) os) :=
  ⟨rfl, rfl, rfl, by show w.heap.size ≤ (w.heap ++ os).size; simp, fun i hi => by show (w.heap ++ os)[i]? = _; rw [Array.getElem?_append_left hi]⟩
theorem itoaC_calls (k : Nat) (w : World) (hk : k ≤ 1000000) (ht : TabAt w) : Calls Tryd.prog 44 #[.int .i64 k] w fun e w' => e = .returned (.string (itoaB k)) ∧ Below w.heap.size w w' := by
  refine (Tryd.strconv_Itoa k (by omega) (by omega) w ht).mono ?_
  rintro e w' ⟨rfl, q, os, rfl⟩
  exact ⟨rfl, below_grow2 _ _ _⟩

def celI (k : Nat) (m : Mod) : Cel := ⟨itoaB k, m⟩
def beginL (ms : List Mod) : List Cel := ms.mapIdx celI
theorem beginL_len (ms : List Mod) : (beginL ms).length = ms.length := by unfold beginL; simp
theorem beginL_take {ms : List Mod} {k : Nat} {m : Mod} {r : List Mod} (h : ms.drop k = m :: r) : (beginL ms).take (k + 1) = (beginL ms).take k ++ [celI k m] := by
  rw [List.take_add_one]
  unfold beginL
  rw [List.getElem?_mapIdx, get_of_drop h]; rfl
def beginR (ms : List Mod) : List Cel × Int := if checkF ms = 0 then (beginL ms, 0) else ([], checkF ms)
def BeginPost (r : List Cel × Int) (w : World) (e : Ending) (w' : World) : Prop := ∃ A c, e = .returned (.tuple #[.slice A r.1.length c, .int .i64 r.2]) ∧ SlAt pCel (Old w') w' A c r.1 ∧ Below w.heap.size w w'
theorem beginPost_none {r : List Cel × Int} {x : Int} {w w' : World} (h : r = ([], x)) (hb : Below w.heap.size w w') : BeginPost r w (.returned (.tuple #[.slice none 0 0, .int .i64 x])) w' := by
  subst h
  exact ⟨none, 0, rfl, (Own.nil (E := pCel) (e := 51) (base := 0) (G := fun _ => False) (w := w')).sl'.2.wide fun k hk => hk.2, hb⟩

set_option maxRecDepth 100000 in
set_option maxHeartbeats 4000000 in
theorem begin_calls (A : Option Addr) (c : Nat) (ms : List Mod) (w : World) (h : SlAt pMod (Old w) w A c ms) (hbd : ms.length ≤ 10000) (hbd2 : ∀ m ∈ ms, m.args.length ≤ 1000) (ht : TabAt w) (hg : GAt w) :
    Calls Tryd.prog 17 #[.slice A ms.length c] w (BeginPost (beginR ms) w) := by
  have hmx := h.lenle
  have hck := wordCheck_calls A c ms w h
  have H := Lib.hid h; clear h
  have Hck := Lib.hid hck; clear hck
  have Ht := Lib.hid ht; clear ht
  have Hg := Lib.hid hg; clear hg
  have Hbd2 := Lib.hid hbd2; clear hbd2
  by_cases h0 : checkF ms = 0
  · have hr : beginR ms = (beginL ms, 0) := by unfold beginR; rw [if_pos h0]
    have hck : Calls Tryd.prog 42 #[.slice A ms.length c] w fun e w' => e = .returned (.int .i64 0) ∧ Below w.heap.size w w' := by
      have := Hck.out
      unfold CheckPost at this
      rwa [h0] at this
    clear h0 Hck
    have Hr := Lib.hid hr; clear hr
    have Hck := Lib.hid hck; clear hck
    go_enter Tryd.func17, Tryd.ntmps17
    go_wp2_with fail
    refine Hck.out.mono ?_
    rintro e w1 ⟨rfl, hb1⟩
    have htw := twin_calls A c ms w1 (H.out.later hb1) hbd Hbd2.out
    have hz1 := hb1.size
    have ht1 := Ht.out.later hb1 Hg.out
    have hg1 := Hg.out.later hb1
    have Htw := Lib.hid htw; clear htw
    have Hb1 := Lib.hid hb1; clear hb1
    have Ht1 := Lib.hid ht1; clear ht1
    have Hg1 := Lib.hid hg1; clear hg1
    go_wp2_with fail
    refine Htw.out.mono ?_
    rintro e w2 ⟨A2, c2, rfl, hs2, hb2⟩
    have hs2' : SlAt pMod (Old w2) w2 A2 c2 ms := slF hs2
    have hbw := Hb1.out.trans (hb2.mono hz1)
    have hz2 := hbw.size
    have ht2 := Ht1.out.later hb2 Hg1.out
    have hg2 := Hg1.out.later hb2
    have Hs2' := Lib.hid hs2'; clear hs2'
    have Hbw := Lib.hid hbw; clear hbw
    have Ht2 := Lib.hid ht2; clear ht2
    have Hg2 := Lib.hid hg2; clear hg2
    clear hs2 hb2 Htw
    go_wp2
    go_loopw [16, 5] (fun i out wr => ∃ k : Nat, k ≤ ms.length ∧ i = .int .i64 k ∧ Hid (Below w2.heap.size w2 wr) ∧ w2.heap.size ≤ wr.heap.size ∧ ∃ A' c', out = .slice A' k c' ∧ Hid (Own pCel 51 w2.heap.size (fun _ => True) wr out ((beginL ms).take k))) (fun i _ _ => ms.length - (intOf i).toNat)
    case atStart => exact ⟨0, Nat.zero_le _, rfl, Below.refl _ _, Nat.le_refl _, none, 0, rfl, Own.nil⟩
    case round =>
      obtain ⟨k, hk, rfl, hb, hsz, Ao, co, rfl, hown⟩ := hrel
      obtain ⟨wo, rfl⟩ : ∃ wo : World, wo = wr := ⟨_, rfl⟩
      by_cases hlt : k < ms.length
      · obtain ⟨b, o, A', c', m, hd, rfl, hob, k0, k1, hf8, hargs, hal⟩ := (Hs2'.out.below hb.out).getMod hlt
        have hob' : b < wo.heap.size := Nat.lt_of_lt_of_le hob hsz
        obtain ⟨W1, hW1⟩ : ∃ W1, W1 = wo.alloc (.cells #[.int .u8 m.name, .slice A' m.args.length c'] 49) := ⟨_, rfl⟩
        have hbW : Below wo.heap.size wo W1 := by rw [hW1]; exact (Below.refl _ _).alloc (Nat.le_refl _) _
        have hblk : Blk W1 wo.heap.size 49 #[.int .u8 m.name, .slice A' m.args.length c'] := by rw [hW1]; exact Blk.new _ _ _
        have hzW : wo.heap.size < W1.heap.size := hblk.lt
        have hbW2 : Below w2.heap.size w2 W1 := hb.out.trans (hbW.mono hsz)
        have htW := (Ht2.out.later hbW2 Hg2.out)
        obtain ⟨it, hit⟩ : ∃ it, itoaB k = it := ⟨_, rfl⟩
        have his : it.size ≤ 21 := by rw [← hit]; exact itoaB_size (by omega)
        have hcel : celI k m = ⟨it, m⟩ := by unfold celI; rw [hit]
        have hcall : Calls Tryd.prog 44 #[.int .i64 k] W1.drew fun e w' => e = .returned (.string it) ∧ Below W1.heap.size W1 w' := by
          refine (itoaC_calls k W1.drew (by omega) htW).mono ?_
          rintro e w' ⟨rfl, hb'⟩
          exact ⟨by rw [hit], (below_drew (Below.refl _ _)).trans hb'⟩
        have step2 : ∀ wv : World, Below W1.heap.size W1 wv →
            Own pCel 51 w2.heap.size (fun _ => True) (wv.alloc (.cells #[.string it, .int .u8 m.name, .slice A' m.args.length c'] 51)) (.slice Ao k co) ((beginL ms).take k) ∧
            SlAt pCel (fun q => Old w2 q ∨ q = wv.heap.size) (wv.alloc (.cells #[.string it, .int .u8 m.name, .slice A' m.args.length c'] 51)) (some ⟨wv.heap.size, 0, none⟩) 1 [⟨it, m⟩] := by
          intro wv hv
          have hbv : Below wo.heap.size wo wv := hbW.trans (hv.mono (Nat.le_of_lt hzW))
          refine ⟨(hown.out.later hbv).alloc _, ?_⟩
          refine sl_boxed (u := .agg #[.string it, .int .u8 m.name, .slice A' m.args.length c']) (F := Old w2) ⟨A', c', rfl, ?_, hf8, hargs.out.keep fun q hq => hbv.block q (Nat.lt_of_lt_of_le hq hsz)⟩ fun q hq => ?_
          · show it.size ≤ maxLen
            unfold maxLen; omega
          · have : q < w2.heap.size := hq
            have := hbv.size
            omega
        have hFq : ∀ wv : World, Below W1.heap.size W1 wv → ∀ q, (Old w2 q ∨ q = wv.heap.size) → True ∧ q < (wv.alloc (.cells #[.string it, .int .u8 m.name, .slice A' m.args.length c'] 51)).heap.size ∧ some q ≠ (Value.slice Ao k co).ownBlock := fun wv hv q hq => by
          have hz := hv.size
          have hz3 := hbW2.size
          rcases hq with hq | hq
          · have hq' : q < w2.heap.size := hq
            refine ⟨trivial, by simp; omega, fun he => ?_⟩
            have := (hown.out.lt q he.symm).1
            omega
          · subst hq
            refine ⟨trivial, by simp, fun he => ?_⟩
            have := (hown.out.lt _ he.symm).2
            omega
        have hB : ∀ wv : World, Below W1.heap.size W1 wv → w2.heap.size ≤ (wv.alloc (.cells #[.string it, .int .u8 m.name, .slice A' m.args.length c'] 51)).heap.size := fun wv hv => by
          have hz := hv.size
          have hz3 := hbW2.size
          simp; omega
        have hlk : ((beginL ms).take k ++ [(⟨it, m⟩ : Cel)]).length = k + 1 := by have := beginL_len ms; simp; omega
        have hrk : Room (k + 1) := room_of (by omega)
        have htk : (beginL ms).take (k + 1) = (beginL ms).take k ++ [⟨it, m⟩] := by rw [beginL_take hd.out, hcel]
        have kp1 : ∀ wv : World, Below W1.heap.size W1 wv → wv.cell? ⟨wo.heap.size, 0, none⟩ = some (.int .u8 m.name) ∧ wv.cell? ⟨wo.heap.size, 1, none⟩ = some (.slice A' m.args.length c') := fun wv hv =>
          ⟨((hblk.same (hv.block _ hzW)).cell 0).trans rfl, ((hblk.same (hv.block _ hzW)).cell 1).trans rfl⟩
        have kp2 : ∀ (wv wz : World) (ob : Obj) (v' : Value), Below W1.heap.size W1 wv → Hid (Grew w2.heap.size (wv.alloc ob) wz (.slice Ao k co) v') → wz.cell? ⟨wo.heap.size, 0, none⟩ = some (.int .u8 m.name) ∧ wz.cell? ⟨wo.heap.size, 1, none⟩ = some (.slice A' m.args.length c') := fun wv wz ob v' hv hgz => by
          have hz := hv.size
          have e : wz.heap[wo.heap.size]? = W1.heap[wo.heap.size]? := ((hgz.out.oth _ (by simp; omega) fun he => by have := (hown.out.lt _ he.symm).2; omega).trans (Below.heap_alloc _ _ _ (by omega))).trans (hv.block _ hzW)
          exact ⟨((hblk.same e).cell 0).trans rfl, ((hblk.same e).cell 1).trans rfl⟩
        have hrest : ∀ (wv wz : World) (ob : Obj) (v' : Value), Below W1.heap.size W1 wv → Hid (Grew w2.heap.size (wv.alloc ob) wz (.slice Ao k co) v') → Below w2.heap.size w2 wz := fun wv wz ob v' hv hgz =>
          ((hbW2.trans (hv.mono hbW2.size)).alloc (by have := hv.size; have := hbW2.size; omega) _).trans hgz.out.bel
        have Hcall := Lib.hid hcall; clear hcall
        have Step2 := Lib.hid step2; clear step2
        have HFq := Lib.hid hFq; clear hFq
        have HB := Lib.hid hB; clear hB
        have Hlk := Lib.hid hlk; clear hlk
        have Hrk := Lib.hid hrk; clear hrk
        have Htk := Lib.hid htk; clear htk
        have Kp1 := Lib.hid kp1; clear kp1
        have Kp2 := Lib.hid kp2; clear kp2
        have Hrest := Lib.hid hrest; clear hrest
        clear hargs hd hbW hbW2 hblk hcel hit htW hob hob' hf8
        go_wp2_with fail
        go_region_held3 (fun w' => w'.cell? ⟨wo.heap.size, 0, none⟩ = some (.int .u8 m.name) ∧ w'.cell? ⟨wo.heap.size, 1, none⟩ = some (.slice A' m.args.length c'))
          (first | go_keep | exact Kp1.out _ hbv | exact Kp2.out _ _ _ _ hbv hgz)
          (first
            | (go_at_call 44; rw [← hW1]; with_reducible refine Hcall.out.mono ?_; rintro e wv ⟨rfl, hbv⟩)
            | (refine step_catG (E := pCel) (xs := (beginL ms).take k) (base := w2.heap.size) (G := fun _ => True) 26 51 (.agg #[.string ByteArray.empty, .int .u8 0, .slice none 0 0]) 48 (.tmp 21) (.tmp 26) rfl rfl Tryd.underlying26 info_cel rfl (by decide) rfl (Step2.out _ hbv).1 _ 1 [⟨it, m⟩] rfl _ (Step2.out _ hbv).2 (HFq.out _ hbv) (k + 1) Hlk.out Hrk.out (by decide) (HB.out _ hbv) ?_; intro Az cz wz hoz hgz))
        have hbz := Hrest.out _ _ _ _ hbv hgz
        have hzz := hbz.size
        have Hbz := Lib.hid hbz; clear hbz
        clear Step2 Kp1 Kp2 hbv hgz HB HFq Hrest
        go_wp2
        go_roundw
        case rel =>
          refine ⟨k + 1, by omega, by go_num, Hbz, hzz, Az, cz, rfl, ?_⟩
          unfold Hid; rw [Htk.out]; exact hoz.out
        case measure => simp [intOf]; omega
      · obtain rfl : k = ms.length := by omega
        have hl := beginL_len ms
        have ho := hown.out
        rw [List.take_of_length_le (by omega)] at ho
        have hs : SlAt pCel (Old wo) wo Ao co (beginL ms) := ho.sl'.2.wide fun q hq => hq.2
        have hbz := Hbw.out.trans (hb.out.mono hz2)
        have Hs := Lib.hid hs; clear hs
        have Hbz := Lib.hid hbz; clear hbz
        clear ho
        generalize beginL ms = L at Hr hl Hs
        have Hl := Lib.hid hl; clear hl
        go_wp2
        go_ret2
        rw [Hr.out]
        refine ⟨Ao, co, ?_, Hs.out, Hbz.out⟩
        show Ending.returned (.tuple #[.slice Ao ms.length co, .int .i64 0]) = _
        rw [Hl.out]
  · have hr : beginR ms = ([], checkF ms) := by unfold beginR; rw [if_neg h0]
    have e0 : (checkF ms != 0) = true := by simp [h0]
    unfold CheckPost at Hck
    generalize checkF ms = x at Hck hr e0
    clear h0
    have Hr := Lib.hid hr; clear hr
    go_enter Tryd.func17, Tryd.ntmps17
    go_wp2_with fail
    refine Hck.out.mono ?_
    rintro e w1 ⟨rfl, hb1⟩
    have Hb1 := Lib.hid hb1; clear hb1
    go_wp2
    go_ret2
    exact beginPost_none Hr.out Hb1.out
end Go.Proofs.YtlipmagkplbkdaaDoor
