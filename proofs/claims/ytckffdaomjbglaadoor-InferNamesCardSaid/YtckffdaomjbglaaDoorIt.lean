/-
  Layer 42: the examples: plain, infers.
-/
import Derived.Test.YtckffdaomjbglaaDoorIr
import Derived.Test.YtckffdaomjbglaaDoorM2
import Derived.Laws.IdiomStrings
import Derived.Laws.BytesArg
import Derived.BigRegion
import Derived.RegionTactic
namespace Go.Proofs.YtckffdaomjbglaaDoor
open Go.RowKit Go.Sort Go.BigFrame
set_option linter.unusedVariables false

def ModsAt (R : List Mod) (w : World) (e : Ending) (w' : World) : Prop := ∃ A c, e = .returned (.slice A R.length c) ∧ Hid (SlAt pMod (Old w') w' A c R) ∧ Below w.heap.size w w'
set_option maxRecDepth 100000 in
set_option maxHeartbeats 1000000 in
theorem lawPlain_calls (s : ByteArray) (R : List Mod) (w : World) (hL : LibAt w) (hs : s.size ≤ 60000) (h1 : parseF s.data.toList = (R, 0)) : Calls Tryd.prog 18 #[.string s] w (ModsAt R w) := by
  have hp := parse_calls s w hs hL
  unfold ParsePost at hp
  rw [h1] at hp
  have Hp := Lib.hid hp; clear hp
  have H1 := Lib.hid h1; clear h1
  go_enter Tryd.func18, Tryd.ntmps18
  go_wp2_with fail
  refine Hp.out.mono ?_
  rintro e w1 ⟨A, c, rfl, own1, hb⟩
  have hs1 := own_sl own1
  have Hb := Lib.hid hb; clear hb
  have Hs1 := Lib.hid hs1; clear hs1
  clear own1
  go_wp2
  go_ret
  exact ⟨A, c, rfl, Hs1, Hb.out⟩
def b8 (c : Int) : UInt8 := UInt8.ofNat c.toNat
theorem b8_nat {c : Int} (h : Fits .u8 c) : ((b8 c).toNat : Int) = c := by
  have h1 : 0 ≤ c ∧ c ≤ 255 := by
    unfold Fits at h
    simpa [Lit.wf, IntKind.min, IntKind.max, IntKind.signed, IntKind.bits] using h
  unfold b8
  simp
  omega
/-- what is wanted of the rules, as texts -/
def WantAt (w : World) (Aw : Option Addr) (rl : List (Int × Int × Int)) : Prop := ∀ i r, rl[i]? = some r → ∃ g, Aw = some ⟨g, 0, none⟩ ∧ g < w.heap.size ∧ w.cell? ⟨g, i, none⟩ = some (.string ⟨#[b8 r.1, b8 r.2.1, b8 r.2.2]⟩)
set_option maxRecDepth 100000 in
set_option maxHeartbeats 4000000 in
theorem infers_calls (s : ByteArray) (most : Int) (t : ByteArray) (Aw : Option Addr) (cw : Nat) (ms : List Mod) (l : List Int) (rl : List (Int × Int × Int)) (w : World) (hL : LibAt w) (hs : s.size ≤ 60000) (hw : WantAt w Aw rl) (h1 : parseF s.data.toList = (ms, 0)) (h2 : inferF ms most = (l, rl, 0)) (h3 : textF (l.map modOf) = (t.data.toList, 0)) (hl : ms.length ≤ 100000) (hrl : rl.length ≤ 30) (hll : l.length ≤ 100000) :
    Calls Tryd.prog 17 #[.string s, .int .i64 most, .string t, .slice Aw rl.length cw] w (OkPost w) := by
  have Hw := Lib.hid hw; clear hw
  have H1 := Lib.hid h1; clear h1
  have H2 := Lib.hid h2; clear h2
  have H3 := Lib.hid h3; clear h3
  have HL := Lib.hid hL; clear hL
  go_enter Tryd.func17, Tryd.ntmps17
  go_wp2_with fail
  refine (lawPlain_calls s ms w HL.out hs H1.out).mono ?_
  rintro e w1 ⟨A1, c1, rfl, S1, b1⟩
  have T1 := Lib.hid b1; clear b1
  have z1 := T1.out.size
  have ic := infer_calls A1 c1 ms most w1 S1.out hl
  unfold InferPost at ic
  rw [H2.out] at ic
  have Ic := Lib.hid ic; clear ic
  go_wp2_with fail
  refine Ic.out.mono ?_
  rintro e w2 ⟨A2, c2, B2, d2, rfl, om2, or2, b2⟩
  have T2 := Lib.hid (T1.out.trans (b2.mono z1))
  have S2 := Lib.hid (own_mods om2 (Below.refl _ _)).2
  have R2 := Lib.hid (own_ruls or2 (Below.refl _ _))
  clear b2 om2 or2
  have z2 := T2.out.size
  have tc := text_calls A2 c2 (l.map modOf) w2 S2.out (HL.out.later T2.out)
  unfold TextPost at tc
  rw [H3.out, List.length_map, show (⟨t.data.toList.toArray⟩ : ByteArray) = t from Lib.mk_data t] at tc
  have eb : (t.toList == t.toList) = true := beq_self_eq_true _
  have Tc := Lib.hid tc; clear tc
  go_wp2_with fail
  refine Tc.out.mono ?_
  rintro e w3 ⟨rfl, b3⟩
  have T3 := Lib.hid (T2.out.trans (b3.mono z2))
  have R3 := Lib.hid (R2.out.later b3)
  have z3 := T3.out.size
  have hmrl : (rl.map rulO).length = rl.length := List.length_map ..
  have Hmrl := Lib.hid hmrl; clear hmrl
  clear b3
  go_wp2
  go_loopw [14] (fun i wr => ∃ (k : Nat), k ≤ rl.length ∧ i = .int .i64 k ∧ Hid (Below w3.heap.size w3 wr) ∧ w3.heap.size ≤ wr.heap.size) (fun i _ => rl.length - (intOf i).toNat)
  case atStart => exact ⟨0, Nat.zero_le _, rfl, Below.refl _ _, Nat.le_refl _⟩
  case round =>
    obtain ⟨k, hk, rfl, hb, hsz⟩ := hrel
    obtain ⟨wo, rfl⟩ : ∃ wo : World, wo = wr := ⟨_, rfl⟩
    have hbw : Below w.heap.size w wo := T3.out.trans (hb.out.mono z3)
    by_cases hlt : k < rl.length
    case neg =>
      obtain rfl : k = rl.length := by omega
      have Hbw := Lib.hid hbw; clear hbw
      go_wp2
      go_ret
      exact ⟨rfl, Hbw.out⟩
    case pos =>
      obtain ⟨b7, o7, A7, c7, A8, c8, q, hdr, hA7, hob7, k0, k1, k2, k3, k4, k5, k6, hfits, hgs, hos, hgl, hol⟩ := (R3.out.later hb.out).getRul (i := k) (by rw [Hmrl.out]; exact hlt)
      subst hA7
      obtain ⟨r, hr, hq⟩ : ∃ r, rl[k]? = some r ∧ q = rulO r := by
        have h1 := get_of_drop hdr.out
        rw [List.getElem?_map] at h1
        obtain ⟨r, hr, hq⟩ := Option.map_eq_some_iff.1 h1
        exact ⟨r, hr, hq.symm⟩
      subst hq
      have k6' : wo.cell? ⟨b7, o7 + k * 7 + 6, none⟩ = some (.slice A8 2 c8) := k6
      have k0' : wo.cell? ⟨b7, o7 + k * 7, none⟩ = some (.int .u8 r.1) := k0
      obtain ⟨b8', o8, As, cs, s1, hd1, hA8, hob8, s10, _, hs18, _, _⟩ := hos.getShp (i := 0) (by show 0 < 2; omega)
      subst hA8
      obtain ⟨b9', o9, As', cs', s2, hd2, hA9, hob9, s20, _, hs28, _, _⟩ := hos.getShp (i := 1) (by show 1 < 2; omega)
      cases hA9
      have e1 : s1 = ⟨r.2.1, []⟩ := by have h := get_of_drop hd1.out; exact (Option.some.inj h).symm
      have e2 : s2 = ⟨r.2.2, []⟩ := by have h := get_of_drop hd2.out; exact (Option.some.inj h).symm
      subst e1 e2
      have s10' : wo.cell? ⟨b8', o8, none⟩ = some (.int .u8 r.2.1) := by simpa using s10
      have s20' : wo.cell? ⟨b8', o8 + 2, none⟩ = some (.int .u8 r.2.2) := by simpa using s20
      obtain ⟨g, hAw, hg, hwc⟩ := Hw.out k r hr
      subst hAw
      have hwo : wo.cell? ⟨g, k, none⟩ = some (.string ⟨#[b8 r.1, b8 r.2.1, b8 r.2.2]⟩) := (cell_keep (hbw.block g hg)).trans hwc
      have hf1 : Fits .u8 r.1 := hfits.1
      obtain ⟨sx, hsx⟩ : ∃ sx : ByteArray, ⟨#[b8 r.1, b8 r.2.1, b8 r.2.2]⟩ = sx := ⟨_, rfl⟩
      have hcv : (convert 55 9 (.slice (some ⟨wo.heap.size, 0, none⟩) 3 3)).run Tryd.prog ((wo.alloc (.cells #[.int .u8 r.1, .int .u8 r.2.1, .int .u8 r.2.2] 5)).drew) = .ok (.string sx) ((wo.alloc (.cells #[.int .u8 r.1, .int .u8 r.2.1, .int .u8 r.2.2] 5)).drew) := by
        have h := run_convert_bytes_back (P := Tryd.prog) ((wo.alloc (.cells #[.int .u8 r.1, .int .u8 r.2.1, .int .u8 r.2.2] 5)).drew) 55 9 5 ⟨wo.heap.size, 0, none⟩ 3 [b8 r.1, b8 r.2.1, b8 r.2.2] Tryd.underlying55 Tryd.underlying5 Tryd.underlying9 ?_
        · rw [← hsx]; exact h
        · have hbk : Blk ((wo.alloc (.cells #[.int .u8 r.1, .int .u8 r.2.1, .int .u8 r.2.2] 5)).drew) wo.heap.size 5 #[.int .u8 r.1, .int .u8 r.2.1, .int .u8 r.2.2] := Blk.new wo 5 #[.int .u8 r.1, .int .u8 r.2.1, .int .u8 r.2.2]
          intro j hj
          have hadd : (⟨wo.heap.size, 0, none⟩ : Addr).add j = ⟨wo.heap.size, j, none⟩ := by unfold Addr.add; split <;> simp_all
          rw [hadd, hbk.cell j]
          match j, hj with
          | 0, _ => simp [b8_nat hf1]
          | 1, _ => simp [b8_nat hs18]
          | 2, _ => simp [b8_nat hs28]
      have hga : ∀ (n off : Nat) (v : Value), n < wo.heap.size → wo.cell? ⟨n, off, none⟩ = some v → (wo.alloc (.cells #[.int .u8 r.1, .int .u8 r.2.1, .int .u8 r.2.2] 5)).cell? ⟨n, off, none⟩ = some v := fun n off v hn h => (cell_keep (((Below.refl wo.heap.size wo).alloc (Nat.le_refl _) _).block n hn)).trans h
      rw [hsx] at hwo
      have hgo : g < wo.heap.size := by have := hbw.size; omega
      have hwo2 := hga g k _ hgo hwo
      have esx : (sx.toList == sx.toList) = true := beq_self_eq_true _
      have hk0 : (0 : Int) ≤ (k : Int) := Int.natCast_nonneg _
      have hk1 : (k : Int) < (rl.length : Int) := by omega
      have hfin : Below w3.heap.size w3 ((wo.alloc (.cells #[.int .u8 r.1, .int .u8 r.2.1, .int .u8 r.2.2] 5)).drew) := below_drew (hb.out.alloc hsz _)
      have hzf : w3.heap.size ≤ ((wo.alloc (.cells #[.int .u8 r.1, .int .u8 r.2.1, .int .u8 r.2.2] 5)).drew).heap.size := hfin.size
      have Hdr := Lib.hid hdr; clear hdr
      have Hr := Lib.hid hr; clear hr
      have Hsx := Lib.hid hsx; clear hsx
      have Hfin := Lib.hid hfin; clear hfin
      have Hzf := Lib.hid hzf; clear hzf
      have Hbw := Lib.hid hbw; clear hbw
      have Hga := Lib.hid hga; clear hga
      have Hos := Lib.hid hos; clear hos
      have Hgs := Lib.hid hgs; clear hgs
      have Hd1 := Lib.hid hd1; clear hd1
      have Hd2 := Lib.hid hd2; clear hd2
      clear k0 k1 k2 k3 k4 k5 k6 s10 s20 hfits hwc
      go_wp2
      go_region
      go_wp2
      go_roundw
      case rel => exact ⟨k + 1, hlt, by go_num, Hfin, Hzf.out⟩
      case measure => simp [intOf]; omega
end Go.Proofs.YtckffdaomjbglaaDoor
