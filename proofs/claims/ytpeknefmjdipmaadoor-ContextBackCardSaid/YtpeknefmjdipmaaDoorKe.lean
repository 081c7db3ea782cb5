/-
  ContextBack, the walk of the law (printed by ke.py).
-/
import Derived.Test.YtpeknefmjdipmaaDoorKd
namespace Go.Proofs.YtpeknefmjdipmaaDoor
open Go.RowKit Go.Sort
set_option linter.unusedVariables false
theorem side_ok {f : Nat → Int} {ms : List Mod} {p : ByteArray} {k : Nat} (hck : checkF ms = 0) (hig : ignF p = true) (hk : k < ms.length) (hb : brkB (nameAt ms k) = false) : sideF f ms (k : Int) p = (f k, 0) := by
  have h : askedF ms (k : Int) p = 0 := by unfold askedF; rw [if_pos hck, Int.toNat_natCast, if_pos ⟨Int.natCast_nonneg _, by omega, hb⟩, if_pos hig]
  unfold sideF; rw [if_pos h, Int.toNat_natCast]
theorem brkB_no {c : Int} (h1 : (c == 91) = false) (h2 : (c == 93) = false) : brkB c = false := by unfold brkB; rw [h1, h2]; rfl
set_option maxRecDepth 100000 in
set_option maxHeartbeats 8000000 in
theorem contextBack_walk (A : Option Addr) (c : Nat) (ms : List Mod) (p : ByteArray) (w : World) (h : SlAt pMod (Old w) w A c ms) (hL : LibAt w) :
    Calls Tryd.prog 3 #[.slice A ms.length c, .string p] w (OkPost w) := by
  have hmx := h.lenle
  have H := Lib.hid h; clear h
  have HL := Lib.hid hL; clear hL
  have out : ∀ (W : World), Below w.heap.size w W → Calls Tryd.prog 6 #[] W fun e W' => e = .returned (.bool true) ∧ Hid (Below w.heap.size w W') := fun W hW => (aliveC_calls W (HL.out.later hW)).mono fun e W' hh => ⟨hh.1, hW.trans (hh.2.mono hW.size)⟩
  have hvc := validC_calls none 0 [] p A c ms w sl_none H.out
  have Out := Lib.hid out; clear out
  have Hvc := Lib.hid hvc; clear hvc
  cases hv : validC [] p ms
  · go_enter Tryd.func3, Tryd.ntmps3
    go_wp2_with fail
    refine Hvc.out.mono ?_
    rintro e w1 ⟨rfl, b1⟩
    rw [hv]
    go_wp2_with fail
    refine (Out.out w1 b1).mono ?_
    rintro e w2 ⟨rfl, b2⟩
    go_wp2
    go_ret
    exact ⟨rfl, b2.out⟩
  obtain ⟨_, hp, hcp, hl, hck⟩ := validC_yes hv
  have hig : ignF p = true := (checkC_parts hcp).2.1
  have hp' : p.size ≤ 1000 := by omega
  have hlf := fun (k : Nat) (W : World) (hk : k < ms.length) (hb : brkB (nameAt ms k) = false) (hW : Below w.heap.size w W) => left_calls A c ms (k : Int) p W (H.out.later hW) (fits_i64 (by omega)) hp'
  have hrt := fun (k : Nat) (W : World) (hk : k < ms.length) (hb : brkB (nameAt ms k) = false) (hW : Below w.heap.size w W) => right_calls A c ms (k : Int) p W (H.out.later hW) (fits_i64 (by omega)) hp'
  have Hcp := Lib.hid hcp; clear hcp
  have Hck := Lib.hid hck; clear hck
  have Hig := Lib.hid hig; clear hig
  have Hlf := Lib.hid hlf; clear hlf
  have Hrt := Lib.hid hrt; clear hrt
  go_enter Tryd.func3, Tryd.ntmps3
  go_wp2_with fail
  refine Hvc.out.mono ?_
  rintro e w1 ⟨rfl, b1⟩
  rw [hv]
  clear hv
  have B1 := Lib.hid b1; clear b1
  go_wp2
  go_loopw [5] (fun i wr => ∃ (k : Nat), k ≤ ms.length ∧ i = .int .i64 k ∧ w.heap.size ≤ wr.heap.size ∧ Hid (Below w.heap.size w wr)) (fun i _ => ms.length - (intOf i).toNat)
  case atStart => exact ⟨0, Nat.zero_le _, rfl, B1.out.size, B1⟩
  case round =>
    obtain ⟨k, hk, rfl, hsz, hb⟩ := hrel
    obtain ⟨wo, rfl⟩ : ∃ wo : World, wo = wr := ⟨_, rfl⟩
    by_cases hlt : k < ms.length
    case neg =>
      go_wp2_with fail
      refine (Out.out wo hb.out).mono ?_
      rintro e w2 ⟨rfl, b2⟩
      go_wp2
      go_ret
      exact ⟨rfl, b2.out⟩
    case pos =>
    obtain ⟨b, o, D, d, m, hd, rfl, hob, q0, q1, hx8, hxa, hxl⟩ := (H.out.below hb.out).getMod hlt
    have hnm := nameAt_drop hd.out
    have hobw : b < w.heap.size := hob
    cases h91 : (m.name == 91)
    case true =>
      have Hd := Lib.hid hd; clear hd
      have Hnm := Lib.hid hnm; clear hnm
      go_wp2
      go_roundw
      case rel => exact ⟨k + 1, hlt, by go_num, hsz, hb⟩
      case measure => simp [intOf]; omega
    case false =>
    cases h93 : (m.name == 93)
    case true =>
      have Hd := Lib.hid hd; clear hd
      have Hnm := Lib.hid hnm; clear hnm
      go_wp2
      go_roundw
      case rel => exact ⟨k + 1, hlt, by go_num, hsz, hb⟩
      case measure => simp [intOf]; omega
    case false =>
    have hbk : brkB (nameAt ms k) = false := by rw [hnm]; exact brkB_no h91 h93
    have hc1 := Hlf.out k wo hlt hbk hb.out
    rw [side_ok Hck.out Hig.out hlt hbk] at hc1
    have hc2 := fun (W : World) (hW : Below w.heap.size w W) => Hrt.out k W hlt hbk hW
    rw [side_ok Hck.out Hig.out hlt hbk] at hc2
    have k0 : (0 : Int) ≤ (k : Int) := Int.natCast_nonneg _
    have k1 : (k : Int) < (ms.length : Int) := by omega
    have hrl := right_law (p := p) hlt hbk
    rcases left_law (p := p) hbk with hla | ⟨a, hla, hak, hna⟩
    · rcases hrl with hrr | ⟨r, hrr, hkr, hrl, hnr, hback⟩
      · rw [hla] at hc1
        simp only [hrr] at hc2
        have Hc1 := Lib.hid hc1; clear hc1
        have Hc2 := Lib.hid hc2; clear hc2
        have Hd := Lib.hid hd; clear hd
        have Hnm := Lib.hid hnm; clear hnm
        have Hbk := Lib.hid hbk; clear hbk
        have Hrr := Lib.hid hrr; clear hrr
        have Hla := Lib.hid hla; clear hla
        go_wp2_with fail
        refine Hc1.out.mono ?_
        rintro e w2 ⟨rfl, b2⟩
        have B2 := Lib.hid (hb.out.trans (b2.mono hsz)); clear b2
        have z2 := B2.out.size
        go_wp2_with fail
        refine (Hc2.out w2 B2.out).mono ?_
        rintro e w3 ⟨rfl, b3⟩
        have B3 := Lib.hid (B2.out.trans (b3.mono z2)); clear b3
        have z3 := B3.out.size
        have q3 := (cell_keep (o := o + k * 2) (B3.out.block b hobw)).trans ((cell_keep (o := o + k * 2) (hb.out.block b hobw)).symm.trans q0)
        clear q0 q1
        go_wp2_with fail
        go_roundw
        case rel => exact ⟨k + 1, hlt, by go_num, z3, B3⟩
        case measure => simp [intOf]; omega
      · cases hgi : ign p m.name
        · rw [hla] at hc1
          have r0 : (0 : Int) ≤ (r : Int) := Int.natCast_nonneg _
          have r1 : (r : Int) < (ms.length : Int) := by omega
          have r2 : ¬ (r : Int) ≤ (k : Int) := by omega
          have r3 : ((r : Int) != -1) = true := by rw [bne_iff_ne]; omega
          have r4 : ¬ (ms.length : Int) ≤ (r : Int) := by omega
          simp only [hrr] at hc2
          have Hc1 := Lib.hid hc1; clear hc1
          have Hc2 := Lib.hid hc2; clear hc2
          have Hd := Lib.hid hd; clear hd
          have Hnm := Lib.hid hnm; clear hnm
          have Hbk := Lib.hid hbk; clear hbk
          have Hrr := Lib.hid hrr; clear hrr
          have Hla := Lib.hid hla; clear hla
          go_wp2_with fail
          refine Hc1.out.mono ?_
          rintro e w2 ⟨rfl, b2⟩
          have B2 := Lib.hid (hb.out.trans (b2.mono hsz)); clear b2
          have z2 := B2.out.size
          go_wp2_with fail
          refine (Hc2.out w2 B2.out).mono ?_
          rintro e w3 ⟨rfl, b3⟩
          have B3 := Lib.hid (B2.out.trans (b3.mono z2)); clear b3
          have z3 := B3.out.size
          have q3 := (cell_keep (o := o + k * 2) (B3.out.block b hobw)).trans ((cell_keep (o := o + k * 2) (hb.out.block b hobw)).symm.trans q0)
          clear q0 q1
          obtain ⟨br, or_, Dr, dr, mr, hdr, hAr, hobr, qr0, _, _, _, _⟩ := (H.out.below B3.out).getMod (i := r) hrl
          injection hAr with hAr; injection hAr with hb2 ho2 _
          subst hb2 ho2
          have hnmr := nameAt_drop hdr.out
          have nr1 : (mr.name == 91) = false := by have := hnr.1; rw [hnmr] at this; simpa using this
          have nr2 : (mr.name == 93) = false := by have := hnr.2.1; rw [hnmr] at this; simpa using this
          have nr3 : ign p mr.name = false := by have := hnr.2.2; rwa [hnmr] at this
          have hcr : ∀ W, Calls Tryd.prog 9 #[.string p, .int .u8 mr.name] W fun e w' => e = .returned (.bool false) ∧ W = w' := fun W => by have := has_calls p mr.name W hp'; rwa [nr3] at this
          have hbr : brkB (nameAt ms r) = false := hnr.brk
          have hci : ∀ W, Calls Tryd.prog 9 #[.string p, .int .u8 m.name] W fun e w' => e = .returned (.bool false) ∧ W = w' := fun W => by have := has_calls p m.name W hp'; rwa [hgi] at this
          have Hdr := Lib.hid hdr; clear hdr
          have Hnmr := Lib.hid hnmr; clear hnmr
          have Hnr := Lib.hid hnr; clear hnr
          have Hcr := Lib.hid hcr; clear hcr
          have Nr3 := Lib.hid nr3; clear nr3
          have Hci := Lib.hid hci; clear hci
          have Hgi := Lib.hid hgi; clear hgi
          have hc5 := Hlf.out r w3 hrl hbr B3.out
          rw [side_ok Hck.out Hig.out hrl hbr, hback (by rw [Hnm.out]; exact Hgi.out)] at hc5
          have Hc5 := Lib.hid hc5; clear hc5
          go_wp2_with (first | (go_at_call 9; with_reducible (refine (Hcr.out _).mono ?_); rintro e w' ⟨rfl, rfl⟩) | (go_at_call 9; with_reducible (refine (Hci.out _).mono ?_); rintro e w' ⟨rfl, rfl⟩))
          refine Hc5.out.mono ?_
          rintro e w5 ⟨rfl, b5⟩
          have B5 := Lib.hid (B3.out.trans (b5.mono z3)); clear b5
          clear q3 qr0
          go_wp2
          go_roundw
          case rel => exact ⟨k + 1, hlt, by go_num, B5.out.size, B5⟩
          case measure => simp [intOf]; omega
        · rw [hla] at hc1
          have r0 : (0 : Int) ≤ (r : Int) := Int.natCast_nonneg _
          have r1 : (r : Int) < (ms.length : Int) := by omega
          have r2 : ¬ (r : Int) ≤ (k : Int) := by omega
          have r3 : ((r : Int) != -1) = true := by rw [bne_iff_ne]; omega
          have r4 : ¬ (ms.length : Int) ≤ (r : Int) := by omega
          simp only [hrr] at hc2
          have Hc1 := Lib.hid hc1; clear hc1
          have Hc2 := Lib.hid hc2; clear hc2
          have Hd := Lib.hid hd; clear hd
          have Hnm := Lib.hid hnm; clear hnm
          have Hbk := Lib.hid hbk; clear hbk
          have Hrr := Lib.hid hrr; clear hrr
          have Hla := Lib.hid hla; clear hla
          go_wp2_with fail
          refine Hc1.out.mono ?_
          rintro e w2 ⟨rfl, b2⟩
          have B2 := Lib.hid (hb.out.trans (b2.mono hsz)); clear b2
          have z2 := B2.out.size
          go_wp2_with fail
          refine (Hc2.out w2 B2.out).mono ?_
          rintro e w3 ⟨rfl, b3⟩
          have B3 := Lib.hid (B2.out.trans (b3.mono z2)); clear b3
          have z3 := B3.out.size
          have q3 := (cell_keep (o := o + k * 2) (B3.out.block b hobw)).trans ((cell_keep (o := o + k * 2) (hb.out.block b hobw)).symm.trans q0)
          clear q0 q1
          obtain ⟨br, or_, Dr, dr, mr, hdr, hAr, hobr, qr0, _, _, _, _⟩ := (H.out.below B3.out).getMod (i := r) hrl
          injection hAr with hAr; injection hAr with hb2 ho2 _
          subst hb2 ho2
          have hnmr := nameAt_drop hdr.out
          have nr1 : (mr.name == 91) = false := by have := hnr.1; rw [hnmr] at this; simpa using this
          have nr2 : (mr.name == 93) = false := by have := hnr.2.1; rw [hnmr] at this; simpa using this
          have nr3 : ign p mr.name = false := by have := hnr.2.2; rwa [hnmr] at this
          have hcr : ∀ W, Calls Tryd.prog 9 #[.string p, .int .u8 mr.name] W fun e w' => e = .returned (.bool false) ∧ W = w' := fun W => by have := has_calls p mr.name W hp'; rwa [nr3] at this
          have hbr : brkB (nameAt ms r) = false := hnr.brk
          have hci : ∀ W, Calls Tryd.prog 9 #[.string p, .int .u8 m.name] W fun e w' => e = .returned (.bool true) ∧ W = w' := fun W => by have := has_calls p m.name W hp'; rwa [hgi] at this
          have Hdr := Lib.hid hdr; clear hdr
          have Hnmr := Lib.hid hnmr; clear hnmr
          have Hnr := Lib.hid hnr; clear hnr
          have Hcr := Lib.hid hcr; clear hcr
          have Nr3 := Lib.hid nr3; clear nr3
          have Hci := Lib.hid hci; clear hci
          have Hgi := Lib.hid hgi; clear hgi
          go_wp2_with (first | (go_at_call 9; with_reducible (refine (Hcr.out _).mono ?_); rintro e w' ⟨rfl, rfl⟩) | (go_at_call 9; with_reducible (refine (Hci.out _).mono ?_); rintro e w' ⟨rfl, rfl⟩))
          go_roundw
          case rel => exact ⟨k + 1, hlt, by go_num, z3, B3⟩
          case measure => simp [intOf]; omega
    · rcases hrl with hrr | ⟨r, hrr, hkr, hrl, hnr, hback⟩
      · rw [hla] at hc1
        have a0 : (0 : Int) ≤ (a : Int) := Int.natCast_nonneg _
        have a1 : (a : Int) < (ms.length : Int) := by omega
        have a2 : ¬ (k : Int) ≤ (a : Int) := by omega
        have a3 : ¬ (a : Int) < -1 := by omega
        simp only [hrr] at hc2
        have Hc1 := Lib.hid hc1; clear hc1
        have Hc2 := Lib.hid hc2; clear hc2
        have Hd := Lib.hid hd; clear hd
        have Hnm := Lib.hid hnm; clear hnm
        have Hbk := Lib.hid hbk; clear hbk
        have Hrr := Lib.hid hrr; clear hrr
        have Hla := Lib.hid hla; clear hla
        go_wp2_with fail
        refine Hc1.out.mono ?_
        rintro e w2 ⟨rfl, b2⟩
        have B2 := Lib.hid (hb.out.trans (b2.mono hsz)); clear b2
        have z2 := B2.out.size
        go_wp2_with fail
        refine (Hc2.out w2 B2.out).mono ?_
        rintro e w3 ⟨rfl, b3⟩
        have B3 := Lib.hid (B2.out.trans (b3.mono z2)); clear b3
        have z3 := B3.out.size
        have q3 := (cell_keep (o := o + k * 2) (B3.out.block b hobw)).trans ((cell_keep (o := o + k * 2) (hb.out.block b hobw)).symm.trans q0)
        clear q0 q1
        obtain ⟨ba, oa, Da, da, ma, hda, hAa, hoba, qa0, _, _, _, _⟩ := (H.out.below B3.out).getMod (i := a) (by omega)
        injection hAa with hAa; injection hAa with hb1 ho1 _
        subst hb1 ho1
        have hnma := nameAt_drop hda.out
        have na1 : (ma.name == 91) = false := by have := hna.1; rw [hnma] at this; simpa using this
        have na2 : (ma.name == 93) = false := by have := hna.2.1; rw [hnma] at this; simpa using this
        have na3 : ign p ma.name = false := by have := hna.2.2; rwa [hnma] at this
        have hca : ∀ W, Calls Tryd.prog 9 #[.string p, .int .u8 ma.name] W fun e w' => e = .returned (.bool false) ∧ W = w' := fun W => by have := has_calls p ma.name W hp'; rwa [na3] at this
        have Hda := Lib.hid hda; clear hda
        have Hnma := Lib.hid hnma; clear hnma
        have Hna := Lib.hid hna; clear hna
        have Hca := Lib.hid hca; clear hca
        have Na3 := Lib.hid na3; clear na3
        go_wp2_with (go_at_call 9; with_reducible (refine (Hca.out _).mono ?_); rintro e w' ⟨rfl, rfl⟩)
        go_roundw
        case rel => exact ⟨k + 1, hlt, by go_num, z3, B3⟩
        case measure => simp [intOf]; omega
      · cases hgi : ign p m.name
        · rw [hla] at hc1
          have a0 : (0 : Int) ≤ (a : Int) := Int.natCast_nonneg _
          have a1 : (a : Int) < (ms.length : Int) := by omega
          have a2 : ¬ (k : Int) ≤ (a : Int) := by omega
          have a3 : ¬ (a : Int) < -1 := by omega
          have r0 : (0 : Int) ≤ (r : Int) := Int.natCast_nonneg _
          have r1 : (r : Int) < (ms.length : Int) := by omega
          have r2 : ¬ (r : Int) ≤ (k : Int) := by omega
          have r3 : ((r : Int) != -1) = true := by rw [bne_iff_ne]; omega
          have r4 : ¬ (ms.length : Int) ≤ (r : Int) := by omega
          simp only [hrr] at hc2
          have Hc1 := Lib.hid hc1; clear hc1
          have Hc2 := Lib.hid hc2; clear hc2
          have Hd := Lib.hid hd; clear hd
          have Hnm := Lib.hid hnm; clear hnm
          have Hbk := Lib.hid hbk; clear hbk
          have Hrr := Lib.hid hrr; clear hrr
          have Hla := Lib.hid hla; clear hla
          go_wp2_with fail
          refine Hc1.out.mono ?_
          rintro e w2 ⟨rfl, b2⟩
          have B2 := Lib.hid (hb.out.trans (b2.mono hsz)); clear b2
          have z2 := B2.out.size
          go_wp2_with fail
          refine (Hc2.out w2 B2.out).mono ?_
          rintro e w3 ⟨rfl, b3⟩
          have B3 := Lib.hid (B2.out.trans (b3.mono z2)); clear b3
          have z3 := B3.out.size
          have q3 := (cell_keep (o := o + k * 2) (B3.out.block b hobw)).trans ((cell_keep (o := o + k * 2) (hb.out.block b hobw)).symm.trans q0)
          clear q0 q1
          obtain ⟨ba, oa, Da, da, ma, hda, hAa, hoba, qa0, _, _, _, _⟩ := (H.out.below B3.out).getMod (i := a) (by omega)
          injection hAa with hAa; injection hAa with hb1 ho1 _
          subst hb1 ho1
          have hnma := nameAt_drop hda.out
          have na1 : (ma.name == 91) = false := by have := hna.1; rw [hnma] at this; simpa using this
          have na2 : (ma.name == 93) = false := by have := hna.2.1; rw [hnma] at this; simpa using this
          have na3 : ign p ma.name = false := by have := hna.2.2; rwa [hnma] at this
          have hca : ∀ W, Calls Tryd.prog 9 #[.string p, .int .u8 ma.name] W fun e w' => e = .returned (.bool false) ∧ W = w' := fun W => by have := has_calls p ma.name W hp'; rwa [na3] at this
          have Hda := Lib.hid hda; clear hda
          have Hnma := Lib.hid hnma; clear hnma
          have Hna := Lib.hid hna; clear hna
          have Hca := Lib.hid hca; clear hca
          have Na3 := Lib.hid na3; clear na3
          obtain ⟨br, or_, Dr, dr, mr, hdr, hAr, hobr, qr0, _, _, _, _⟩ := (H.out.below B3.out).getMod (i := r) hrl
          injection hAr with hAr; injection hAr with hb2 ho2 _
          subst hb2 ho2
          have hnmr := nameAt_drop hdr.out
          have nr1 : (mr.name == 91) = false := by have := hnr.1; rw [hnmr] at this; simpa using this
          have nr2 : (mr.name == 93) = false := by have := hnr.2.1; rw [hnmr] at this; simpa using this
          have nr3 : ign p mr.name = false := by have := hnr.2.2; rwa [hnmr] at this
          have hcr : ∀ W, Calls Tryd.prog 9 #[.string p, .int .u8 mr.name] W fun e w' => e = .returned (.bool false) ∧ W = w' := fun W => by have := has_calls p mr.name W hp'; rwa [nr3] at this
          have hbr : brkB (nameAt ms r) = false := hnr.brk
          have hci : ∀ W, Calls Tryd.prog 9 #[.string p, .int .u8 m.name] W fun e w' => e = .returned (.bool false) ∧ W = w' := fun W => by have := has_calls p m.name W hp'; rwa [hgi] at this
          have Hdr := Lib.hid hdr; clear hdr
          have Hnmr := Lib.hid hnmr; clear hnmr
          have Hnr := Lib.hid hnr; clear hnr
          have Hcr := Lib.hid hcr; clear hcr
          have Nr3 := Lib.hid nr3; clear nr3
          have Hci := Lib.hid hci; clear hci
          have Hgi := Lib.hid hgi; clear hgi
          have hc5 := Hlf.out r w3 hrl hbr B3.out
          rw [side_ok Hck.out Hig.out hrl hbr, hback (by rw [Hnm.out]; exact Hgi.out)] at hc5
          have Hc5 := Lib.hid hc5; clear hc5
          go_wp2_with (first | (go_at_call 9; with_reducible (refine (Hca.out _).mono ?_); rintro e w' ⟨rfl, rfl⟩) | (go_at_call 9; with_reducible (refine (Hcr.out _).mono ?_); rintro e w' ⟨rfl, rfl⟩) | (go_at_call 9; with_reducible (refine (Hci.out _).mono ?_); rintro e w' ⟨rfl, rfl⟩))
          refine Hc5.out.mono ?_
          rintro e w5 ⟨rfl, b5⟩
          have B5 := Lib.hid (B3.out.trans (b5.mono z3)); clear b5
          clear q3 qa0 qr0
          go_wp2
          go_roundw
          case rel => exact ⟨k + 1, hlt, by go_num, B5.out.size, B5⟩
          case measure => simp [intOf]; omega
        · rw [hla] at hc1
          have a0 : (0 : Int) ≤ (a : Int) := Int.natCast_nonneg _
          have a1 : (a : Int) < (ms.length : Int) := by omega
          have a2 : ¬ (k : Int) ≤ (a : Int) := by omega
          have a3 : ¬ (a : Int) < -1 := by omega
          have r0 : (0 : Int) ≤ (r : Int) := Int.natCast_nonneg _
          have r1 : (r : Int) < (ms.length : Int) := by omega
          have r2 : ¬ (r : Int) ≤ (k : Int) := by omega
          have r3 : ((r : Int) != -1) = true := by rw [bne_iff_ne]; omega
          have r4 : ¬ (ms.length : Int) ≤ (r : Int) := by omega
          simp only [hrr] at hc2
          have Hc1 := Lib.hid hc1; clear hc1
          have Hc2 := Lib.hid hc2; clear hc2
          have Hd := Lib.hid hd; clear hd
          have Hnm := Lib.hid hnm; clear hnm
          have Hbk := Lib.hid hbk; clear hbk
          have Hrr := Lib.hid hrr; clear hrr
          have Hla := Lib.hid hla; clear hla
          go_wp2_with fail
          refine Hc1.out.mono ?_
          rintro e w2 ⟨rfl, b2⟩
          have B2 := Lib.hid (hb.out.trans (b2.mono hsz)); clear b2
          have z2 := B2.out.size
          go_wp2_with fail
          refine (Hc2.out w2 B2.out).mono ?_
          rintro e w3 ⟨rfl, b3⟩
          have B3 := Lib.hid (B2.out.trans (b3.mono z2)); clear b3
          have z3 := B3.out.size
          have q3 := (cell_keep (o := o + k * 2) (B3.out.block b hobw)).trans ((cell_keep (o := o + k * 2) (hb.out.block b hobw)).symm.trans q0)
          clear q0 q1
          obtain ⟨ba, oa, Da, da, ma, hda, hAa, hoba, qa0, _, _, _, _⟩ := (H.out.below B3.out).getMod (i := a) (by omega)
          injection hAa with hAa; injection hAa with hb1 ho1 _
          subst hb1 ho1
          have hnma := nameAt_drop hda.out
          have na1 : (ma.name == 91) = false := by have := hna.1; rw [hnma] at this; simpa using this
          have na2 : (ma.name == 93) = false := by have := hna.2.1; rw [hnma] at this; simpa using this
          have na3 : ign p ma.name = false := by have := hna.2.2; rwa [hnma] at this
          have hca : ∀ W, Calls Tryd.prog 9 #[.string p, .int .u8 ma.name] W fun e w' => e = .returned (.bool false) ∧ W = w' := fun W => by have := has_calls p ma.name W hp'; rwa [na3] at this
          have Hda := Lib.hid hda; clear hda
          have Hnma := Lib.hid hnma; clear hnma
          have Hna := Lib.hid hna; clear hna
          have Hca := Lib.hid hca; clear hca
          have Na3 := Lib.hid na3; clear na3
          obtain ⟨br, or_, Dr, dr, mr, hdr, hAr, hobr, qr0, _, _, _, _⟩ := (H.out.below B3.out).getMod (i := r) hrl
          injection hAr with hAr; injection hAr with hb2 ho2 _
          subst hb2 ho2
          have hnmr := nameAt_drop hdr.out
          have nr1 : (mr.name == 91) = false := by have := hnr.1; rw [hnmr] at this; simpa using this
          have nr2 : (mr.name == 93) = false := by have := hnr.2.1; rw [hnmr] at this; simpa using this
          have nr3 : ign p mr.name = false := by have := hnr.2.2; rwa [hnmr] at this
          have hcr : ∀ W, Calls Tryd.prog 9 #[.string p, .int .u8 mr.name] W fun e w' => e = .returned (.bool false) ∧ W = w' := fun W => by have := has_calls p mr.name W hp'; rwa [nr3] at this
          have hbr : brkB (nameAt ms r) = false := hnr.brk
          have hci : ∀ W, Calls Tryd.prog 9 #[.string p, .int .u8 m.name] W fun e w' => e = .returned (.bool true) ∧ W = w' := fun W => by have := has_calls p m.name W hp'; rwa [hgi] at this
          have Hdr := Lib.hid hdr; clear hdr
          have Hnmr := Lib.hid hnmr; clear hnmr
          have Hnr := Lib.hid hnr; clear hnr
          have Hcr := Lib.hid hcr; clear hcr
          have Nr3 := Lib.hid nr3; clear nr3
          have Hci := Lib.hid hci; clear hci
          have Hgi := Lib.hid hgi; clear hgi
          go_wp2_with (first | (go_at_call 9; with_reducible (refine (Hca.out _).mono ?_); rintro e w' ⟨rfl, rfl⟩) | (go_at_call 9; with_reducible (refine (Hcr.out _).mono ?_); rintro e w' ⟨rfl, rfl⟩) | (go_at_call 9; with_reducible (refine (Hci.out _).mono ?_); rintro e w' ⟨rfl, rfl⟩))
          go_roundw
          case rel => exact ⟨k + 1, hlt, by go_num, z3, B3⟩
          case measure => simp [intOf]; omega
end Go.Proofs.YtpeknefmjdipmaaDoor
