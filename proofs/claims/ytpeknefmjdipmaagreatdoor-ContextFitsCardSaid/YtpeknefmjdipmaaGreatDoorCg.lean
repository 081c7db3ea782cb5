/-
  Layer 8: the walk of the search for a rule that fits.
-/
import Derived.Test.YtpeknefmjdipmaaGreatDoorCf
import Derived.BigQuiet
import Derived.IntWalk
namespace Go.Proofs.YtpeknefmjdipmaaGreatDoor
open Go.RowKit Go.Sort Go.BigFrame

theorem firstC_no {q : Rul → Bool} {r : Rul} {rs : List Rul} {k : Nat} (h : q r = false) : firstC q (r :: rs) k = firstC q rs (k + 1) := by
  have e : firstC q (r :: rs) k = if q r = true then (k : Int) else firstC q rs (k + 1) := rfl
  rw [e, if_neg (by rw [h]; decide)]
theorem firstC_yes {q : Rul → Bool} {r : Rul} {rs : List Rul} {k : Nat} (h : q r = true) : firstC q (r :: rs) k = (k : Int) := by
  have e : firstC q (r :: rs) k = if q r = true then (k : Int) else firstC q rs (k + 1) := rfl
  rw [e, if_pos h]
theorem fitC_of {p : ByteArray} {ms : List Mod} {i : Nat} {m : Mod} (hm : ms[i]? = some m) (r : Rul) : fitC p ms i r = (fitsF r m && atB ms (leftF p ms i) r.left && atB ms (rightF p ms i) r.right) := by
  unfold fitC; rw [List.getD_eq_getElem?_getD, hm]; rfl
/-- the tests ahead of a rule's guards -/
theorem fitC_cases (p : ByteArray) (ms : List Mod) (i : Nat) (m : Mod) (r : Rul) (hm : ms[i]? = some m) :
    (fitC p ms i r = false ∧ (r.name != m.name) = true) ∨ ((r.name != m.name) = false ∧ ((fitC p ms i r = false ∧ (r.arity != (m.args.length : Int)) = true) ∨ ((r.arity != (m.args.length : Int)) = false ∧ ((fitC p ms i r = false ∧ atB ms (leftF p ms i) r.left = false) ∨
      (atB ms (leftF p ms i) r.left = true ∧ ((fitC p ms i r = false ∧ atB ms (rightF p ms i) r.right = false) ∨ (atB ms (rightF p ms i) r.right = true ∧ fitC p ms i r = r.guards.all (fun g => decide (0 ≤ worthF g m.args))))))))) := by
  rw [fitC_of hm]
  cases hn1 : (r.name != m.name)
  · cases hn2 : (r.arity != (m.args.length : Int))
    · rw [fitsF_else hn1 hn2]
      cases atB ms (leftF p ms i) r.left <;> cases atB ms (rightF p ms i) r.right <;> simp
    · rw [fitsF_arity hn2]; simp
  · rw [fitsF_name hn1]; simp

theorem Blk.four {w : World} {g : Nat} {t : TypeId} {a0 a1 a2 a3 : Value} (h : Blk w g t #[a0, a1, a2, a3]) : w.cell? ⟨g, 0, none⟩ = some a0 ∧ w.cell? ⟨g, 1, none⟩ = some a1 ∧ w.cell? ⟨g, 2, none⟩ = some a2 ∧ w.cell? ⟨g, 3, none⟩ = some a3 :=
  ⟨h.cell 0, h.cell 1, h.cell 2, h.cell 3⟩
set_option maxRecDepth 100000 in
set_option maxHeartbeats 8000000 in
theorem sFind_calls (A : Option Addr) (c : Nat) (rs : List Rul) (B : Option Addr) (cb : Nat) (ms : List Mod) (A2 : Option Addr) (c2 : Nat) (A3 : Option Addr) (c3 : Nat) (p : ByteArray) (i : Nat) (w : World)
    (h : SlAt pRul (Old w) w A c rs) (h' : SlAt pMod (Old w) w B cb ms) (hl : SlAt (pI .i64) (Old w) w A2 c2 (leftL p ms)) (hr : SlAt (pI .i64) (Old w) w A3 c3 (rightL p ms)) (hco : rs.all coreR = true) (hfine : ∀ m ∈ ms, fineF m = true) (hi : i < ms.length) :
    Calls Tryz.prog 25 #[.agg #[.slice A rs.length c, .slice B ms.length cb, .slice A2 ms.length c2, .slice A3 ms.length c3], .int .i64 i] w (IntPost (findC p rs ms i) w) := by
  have hmx := h.lenle
  have hmx' := h'.lenle
  obtain ⟨W0, hW0⟩ : ∃ W0, W0 = w.alloc (.cells #[.slice A rs.length c, .slice B ms.length cb, .slice A2 ms.length c2, .slice A3 ms.length c3] 55) := ⟨_, rfl⟩
  have hb0 : Below w.heap.size w W0 := by rw [hW0]; exact (Below.refl _ _).alloc (Nat.le_refl _) _
  have hz0 : w.heap.size + 1 ≤ W0.heap.size := by rw [hW0]; simp
  have hbs0 : Blk W0 w.heap.size 55 #[.slice A rs.length c, .slice B ms.length cb, .slice A2 ms.length c2, .slice A3 ms.length c3] := by rw [hW0]; exact Blk.new _ _ _
  obtain ⟨b, o, D, d, m, hd, rfl, hob, q0, q1, hx8, hxa, hxl⟩ := h'.getMod hi
  obtain ⟨b2, o2, rfl, hob2, p2, _⟩ := hl.intAt (leftL_get hi)
  obtain ⟨b3, o3, rfl, hob3, p3, _⟩ := hr.intAt (rightL_get hi)
  have hmi := get_of_drop hd.out
  have hargs := fine_args (hfine m (mem_of_drop hd.out))
  have hi0 : (0 : Int) ≤ (i : Int) := Int.natCast_nonneg _
  have hi1 : (i : Int) < (ms.length : Int) := by omega
  have hlr := leftF_rng p ms i
  have hrr := rightF_rng p ms i hi
  have hll : leftF p ms i < ms.length := by omega
  obtain ⟨lv, hlv⟩ : ∃ lv, leftF p ms i = lv := ⟨_, rfl⟩
  obtain ⟨rv, hrv⟩ : ∃ rv, rightF p ms i = rv := ⟨_, rfl⟩
  have hcas := fun r => fitC_cases p ms i m r hmi
  rw [hlv] at p2 hll
  rw [hrv] at p3 hrr
  simp only [hlv, hrv] at hcas
  have cells : ∀ W, Below w.heap.size w W → W.cell? ⟨b, o + i * 2, none⟩ = some (.int .u8 m.name) ∧ W.cell? ⟨b, o + i * 2 + 1, none⟩ = some (.slice D m.args.length d) ∧ W.cell? ⟨b2, o2 + i, none⟩ = some (.int .i64 lv) ∧ W.cell? ⟨b3, o3 + i, none⟩ = some (.int .i64 rv) := fun W hW =>
    ⟨(cell_keep (hW.block _ hob)).trans q0, (cell_keep (hW.block _ hob)).trans q1, (cell_keep (hW.block _ hob2)).trans p2, (cell_keep (hW.block _ hob3)).trans p3⟩
  have hal : ∀ (k : Int) (cc : Int) (W : World), k < ms.length → Below w.heap.size w W → Calls Tryz.prog 47 #[.agg #[.slice A rs.length c, .slice (some ⟨b, o, none⟩) ms.length cb, .slice (some ⟨b2, o2, none⟩) ms.length c2, .slice (some ⟨b3, o3, none⟩) ms.length c3], .int .i64 k, .int .u8 cc] W (BoolPost (atB ms k cc) W) := fun k cc W hk hW =>
    at_calls (.slice A rs.length c) (some ⟨b, o, none⟩) cb ms (.slice (some ⟨b2, o2, none⟩) ms.length c2) (.slice (some ⟨b3, o3, none⟩) ms.length c3) k cc W (h'.later hW) hk rfl rfl rfl
  have hst : findC p rs ms i = firstC (fitC p ms i) (rs.drop 0) 0 := rfl
  have H := Lib.hid h; clear h
  have H' := Lib.hid h'; clear h'
  have Hl := Lib.hid hl; clear hl
  have Hr := Lib.hid hr; clear hr
  have Hco := Lib.hid hco; clear hco
  have Hb0 := Lib.hid hb0; clear hb0
  have Hbs0 := Lib.hid hbs0; clear hbs0
  have HW0 := Lib.hid hW0; clear hW0
  have Hd := Lib.hid hd; clear hd
  have Hxa := Lib.hid hxa; clear hxa
  have Hmi := Lib.hid hmi; clear hmi
  have Hargs := Lib.hid hargs; clear hargs
  have Hlv := Lib.hid hlv; clear hlv
  have Hrv := Lib.hid hrv; clear hrv
  have Hcas := Lib.hid hcas; clear hcas
  have Cells := Lib.hid cells; clear cells
  have Hal := Lib.hid hal; clear hal
  have Hst := Lib.hid hst; clear hst
  clear q0 q1 p2 p3 hfine
  go_enter Tryz.func25, Tryz.ntmps25
  go_wp2
  rw [← HW0.out]
  go_loopw [16] (fun z wr => ∃ k : Nat, k ≤ rs.length ∧ z = .int .i64 k ∧ Hid (Below W0.heap.size W0 wr) ∧ W0.heap.size ≤ wr.heap.size ∧ Hid (findC p rs ms i = firstC (fitC p ms i) (rs.drop k) k)) (fun z _ => rs.length - (intOf z).toNat)
  case atStart => exact ⟨0, Nat.zero_le _, rfl, Below.refl _ _, Nat.le_refl _, Hst⟩
  case round =>
    obtain ⟨k, hk, rfl, hb, hsz, hall⟩ := hrel
    obtain ⟨wo, rfl⟩ : ∃ wo : World, wo = wr := ⟨_, rfl⟩
    have hbwo : Below w.heap.size w wo := Hb0.out.trans (hb.out.mono (by omega))
    by_cases hlt : k < rs.length
    case neg =>
      have hy : findC p rs ms i = -1 := by rw [hall.out, drop_end hlt]; rfl
      have Hy := Lib.hid hy; clear hy
      have Hbwo := Lib.hid hbwo; clear hbwo
      go_wp2
      go_ret
      exact ⟨ret_int Hy.out.symm, Hbwo.out⟩
    case pos =>
      obtain ⟨b4, o4, A5, c5, A6, c6, r, hdr, rfl, hob4, k0, k1, k2, k3, k4, k5, k6, hat, hl1, hl2⟩ := (H.out.below hbwo).getRulAt hlt
      have hob4' : b4 < wo.heap.size := by have : b4 < w.heap.size := hob4; omega
      have hmem := mem_of_drop hdr.out
      have hwl : w.heap.size < wo.heap.size := by omega
      obtain ⟨W1, hW1⟩ : ∃ W1, W1 = wo.alloc (.cells #[.int .u8 r.name, .int .i64 r.arity, .int .u8 r.left, .int .u8 r.right, .slice A5 r.guards.length c5, .int .i64 r.weight, .slice A6 r.out.length c6] 38) := ⟨_, rfl⟩
      have hb1 : Below wo.heap.size wo W1 := by rw [hW1]; exact (Below.refl _ _).alloc (Nat.le_refl _) _
      have hz1 : wo.heap.size + 1 ≤ W1.heap.size := by rw [hW1]; simp
      have hbx : Blk W1 wo.heap.size 38 #[.int .u8 r.name, .int .i64 r.arity, .int .u8 r.left, .int .u8 r.right, .slice A5 r.guards.length c5, .int .i64 r.weight, .slice A6 r.out.length c6] := by rw [hW1]; exact Blk.new _ _ _
      have hbs1 := (Hbs0.out.same (hb.out.block _ (by omega))).same (hb1.block _ hwl)
      have hbw1 : Below w.heap.size w W1 := hbwo.trans (hb1.mono (by omega))
      have hsys := hbs1.four
      obtain ⟨x0, x1, x2, x3, x4, x5, x6⟩ := hbx.rul
      obtain ⟨m0, m1, m2, m3⟩ := Cells.out W1 hbw1
      have kx0 := cell_regrown x0
      have kx1 := cell_regrown x1
      have kx2 := cell_regrown x2
      have kx3 := cell_regrown x3
      have km0 := cell_regrown m0
      have km1 := cell_regrown m1
      have km2 := cell_regrown m2
      have km3 := cell_regrown m3
      have ks0 := cell_regrown hsys.1
      have ks1 := cell_regrown hsys.2.1
      have ks2 := cell_regrown hsys.2.2.1
      have ks3 := cell_regrown hsys.2.2.2
      have hcL : ∀ (q : Nat) (os : Array Obj), Calls Tryz.prog 47 #[.agg #[.slice (some ⟨b4, o4, none⟩) rs.length c, .slice (some ⟨b, o, none⟩) ms.length cb, .slice (some ⟨b2, o2, none⟩) ms.length c2, .slice (some ⟨b3, o3, none⟩) ms.length c3], .int .i64 lv, .int .u8 r.left] (grow (redrawn W1 q) os) fun e w'' => e = .returned (.bool (atB ms lv r.left)) ∧ ∃ p : Regrown, w'' = grow (redrawn W1 p.d) p.os := fun q os =>
        Calls.regrown_of (Hal.out lv r.left _ hll (hbw1.trans ((below_regrown W1 q os).mono (by omega))))
      have hcR : ∀ (q : Nat) (os : Array Obj), Calls Tryz.prog 47 #[.agg #[.slice (some ⟨b4, o4, none⟩) rs.length c, .slice (some ⟨b, o, none⟩) ms.length cb, .slice (some ⟨b2, o2, none⟩) ms.length c2, .slice (some ⟨b3, o3, none⟩) ms.length c3], .int .i64 rv, .int .u8 r.right] (grow (redrawn W1 q) os) fun e w'' => e = .returned (.bool (atB ms rv r.right)) ∧ ∃ p : Regrown, w'' = grow (redrawn W1 p.d) p.os := fun q os =>
        Calls.regrown_of (Hal.out rv r.right _ hrr.2 (hbw1.trans ((below_regrown W1 q os).mono (by omega))))
      have hnext : fitC p ms i r = false → findC p rs ms i = firstC (fitC p ms i) (rs.drop (k + 1)) (k + 1) := fun hf => by rw [hall.out, hdr.out, firstC_no hf]
      have hfound : fitC p ms i r = true → findC p rs ms i = (k : Int) := fun hf => by rw [hall.out, hdr.out, firstC_yes hf]
      have hcs := Hcas.out r
      have hco1 : coreR r = true := List.all_eq_true.1 Hco.out r hmem
      have Hbwo := Lib.hid hbwo; clear hbwo
      have Hb1 := Lib.hid hb1; clear hb1
      have Hbx := Lib.hid hbx; clear hbx
      have Hbs1 := Lib.hid hbs1; clear hbs1
      have Hbw1 := Lib.hid hbw1; clear hbw1
      have Hsys := Lib.hid hsys; clear hsys
      have HcL := Lib.hid hcL; clear hcL
      have HcR := Lib.hid hcR; clear hcR
      have Hnext := Lib.hid hnext; clear hnext
      have Hfound := Lib.hid hfound; clear hfound
      have Hco1 := Lib.hid hco1; clear hco1
      have Hat := Lib.hid hat; clear hat
      go_upto_region 4 with fail
      rw [← hW1]
      have HW1 := Lib.hid hW1; clear hW1
      clear k0 k1 k2 k3 k4 k5 k6 x0 x1 x2 x3 x5 x6 m0 m1 m2 m3
      rcases hcs with ⟨hf, e0⟩ | ⟨e0, (⟨hf, e1⟩ | ⟨e1, (⟨hf, e2⟩ | ⟨e2, (⟨hf, e3⟩ | ⟨e3, hf⟩)⟩)⟩)⟩
      case inr.inr.inr.inr =>
        have hgo := fun (x : Frm) (hx : x ∈ r.guards) => guardOk Hco1.out e1 Hargs.out hx
        have hff := hf
        have Hgo := Lib.hid hgo; clear hgo
        have Hff := Lib.hid hff; clear hff
        clear hf
        rw [e2] at HcL
        rw [e3] at HcR
        refine wp_region_quiet_below (by kernel_rfl) (by kernel_rfl) ?_
        iterate 31 (go_big_quiet_step (exact (HcL.out _ _).mono fun e w'' h => h))
        iterate 14 (go_big_quiet_step (exact (HcR.out _ _).mono fun e w'' h => h))
        refine wpQuiet_nil ?_
        intro _ hw'
        obtain ⟨⟨dq, osq⟩, hw''⟩ := hw'
        subst hw''
        have hbr := below_regrown W1 dq osq
        generalize grow (redrawn W1 dq) osq = w5 at hbr ⊢
        have hz5 := hbr.size
        have y4 : w5.cell? ⟨wo.heap.size, 4, none⟩ = some (.slice A5 r.guards.length c5) := (cell_keep (hbr.block _ (by omega))).trans x4
        have hb15 : Below wo.heap.size wo w5 := Hb1.out.trans (hbr.mono (by omega))
        have hbw5 : Below w.heap.size w w5 := Hbwo.out.trans (hb15.mono (by omega))
        have hb5 : Below W0.heap.size W0 w5 := hb.out.trans (hb15.mono hsz)
        have hgs : SlAt pFrm (Old w) w5 A5 c5 r.guards := Hat.out.out.sg.keep fun q hq => hb15.block q (by have : q < w.heap.size := hq; omega)
        have has : SlAt (pI .i64) (Old w) w5 D d m.args := Hxa.out.out.below hbw5
        have hbs5 := Hbs1.out.same (hbr.block _ (by omega))
        have Hb15 := Lib.hid hb15; clear hb15
        have Hbw5 := Lib.hid hbw5; clear hbw5
        have Hb5 := Lib.hid hb5; clear hb5
        have Hgs := Lib.hid hgs; clear hgs
        have Has := Lib.hid has; clear has
        have Hbs5 := Lib.hid hbs5; clear hbs5
        clear kx0 kx1 kx2 kx3 km0 km1 km2 km3 ks0 ks1 ks2 ks3 hbr x4 e0 e1 e2 e3 HcL HcR Hcas
        go_wp2
        clear y4
        go_loopw [69, 7] (fun g fv wr => ∃ q : Nat, q ≤ r.guards.length ∧ g = .int .i64 q ∧ ∃ fb : Bool, fv = .bool fb ∧ Hid (Below w5.heap.size w5 wr) ∧ w5.heap.size ≤ wr.heap.size ∧ Hid (fitC p ms i r = (fb && (r.guards.drop q).all (fun g => decide (0 ≤ worthF g m.args))))) (fun g _ _ => r.guards.length - (intOf g).toNat)
        case atStart => exact ⟨0, Nat.zero_le _, rfl, true, rfl, Below.refl _ _, Nat.le_refl _, Hff.out⟩
        case round =>
          obtain ⟨q, hq, rfl, fb, rfl, hb2, hsz2, hall2⟩ := hrel
          obtain ⟨wp, rfl⟩ : ∃ wp : World, wp = wr := ⟨_, rfl⟩
          by_cases hlg : q < r.guards.length
          case neg =>
            have hfin : fitC p ms i r = fb := by rw [hall2.out, drop_end hlg]; simp
            have hbwp : Below w.heap.size w wp := Hbw5.out.trans (hb2.out.mono (by omega))
            have hb0p : Below W0.heap.size W0 wp := Hb5.out.trans (hb2.out.mono (by omega))
            cases fb
            · have hn := Hnext.out hfin
              have Hn := Lib.hid hn; clear hn
              have Hbwp := Lib.hid hbwp; clear hbwp
              have Hb0p := Lib.hid hb0p; clear hb0p
              have Hfin := Lib.hid hfin; clear hfin
              go_wp2
              go_roundw
              case rel => exact ⟨k + 1, hlt, by go_num, Hb0p, by omega, Hn⟩
              case measure => simp [intOf]; omega
            · have hn := Hfound.out hfin
              have Hn := Lib.hid hn; clear hn
              have Hbwp := Lib.hid hbwp; clear hbwp
              have Hb0p := Lib.hid hb0p; clear hb0p
              have Hfin := Lib.hid hfin; clear hfin
              go_wp2
              go_ret
              exact ⟨ret_int Hn.out.symm, Hbwp.out⟩
          case pos =>
            obtain ⟨b6, o6, A7, c7, f, hdf, rfl, hob6, hs0, hs1, hsc, hsa, hsl⟩ := (Hgs.out.keep fun q hq => hb2.out.block q (by have : q < w.heap.size := hq; omega)).getFrm hlg
            have hob6' : b6 < wp.heap.size := by have : b6 < w.heap.size := hob6; omega
            have hok := Hgo.out f (mem_of_drop hdf.out)
            obtain ⟨W3, hW3⟩ : ∃ W3, W3 = wp.alloc (.cells #[.int .i64 f.const, .slice A7 f.coefs.length c7] 66) := ⟨_, rfl⟩
            have hb3 : Below wp.heap.size wp W3 := by rw [hW3]; exact (Below.refl _ _).alloc (Nat.le_refl _) _
            have hz3 : wp.heap.size + 1 ≤ W3.heap.size := by rw [hW3]; simp
            have hbf : Blk W3 wp.heap.size 66 #[.int .i64 f.const, .slice A7 f.coefs.length c7] := by rw [hW3]; exact Blk.new _ _ _
            have hb23 : Below w5.heap.size w5 W3 := hb2.out.trans (hb3.mono hsz2)
            have hbw3 : Below w.heap.size w W3 := Hbw5.out.trans (hb23.mono (by omega))
            have f0 := hbf.cell 0
            have f1 := hbf.cell 1
            have hsy := (Hbs5.out.same (hb23.block _ (by omega))).four
            obtain ⟨_, s1, _, _⟩ := hsy
            obtain ⟨_, m1, _, _⟩ := Cells.out W3 hbw3
            have has3 := Has.out.keep (w' := W3) fun q hq => hb23.block q (by have : q < w.heap.size := hq; omega)
            have hcf3 := hsa.out.keep (w' := W3) fun q hq => hb3.block q (by have : q < w.heap.size := hq; omega)
            have hln := hok.n
            have hl4 := hok.l
            have hcc := hok.c
            have Hok := Lib.hid hok; clear hok
            have Hb3 := Lib.hid hb3; clear hb3
            have Hbf := Lib.hid hbf; clear hbf
            have Hb23 := Lib.hid hb23; clear hb23
            have Hbw3 := Lib.hid hbw3; clear hbw3
            have Has3 := Lib.hid has3; clear has3
            have Hcf3 := Lib.hid hcf3; clear hcf3
            have Hln := Lib.hid hln; clear hln
            go_upto_region 9 with fail
            rw [← hW3]
            have HW3 := Lib.hid hW3; clear hW3
            clear hs0 hs1
            go_wp2
            clear f0
            go_loop [82, 10] (fun z n => ∃ j : Nat, j ≤ m.args.length ∧ z = .int .i64 j ∧ ∃ s : Int, n = .int .i64 s ∧ -(1000000 + j * 1000000000000000 : Int) ≤ s ∧ s ≤ 1000000 + j * 1000000000000000 ∧ Hid (worthF f m.args = s + fdot (f.coefs.drop j) (m.args.drop j))) (fun z _ => m.args.length - (intOf z).toNat)
            case atStart => exact ⟨0, Nat.zero_le _, rfl, f.const, rfl, by omega, by omega, rfl⟩
            case round =>
              obtain ⟨j, hj, rfl, s, rfl, hsl0, hsl1, hd2⟩ := hrel
              by_cases hlj : j < m.args.length
              case pos =>
                have hlx : j < f.coefs.length := by have := Hln.out; omega
                obtain ⟨b7, o7, x, hdx, rfl, _, hcx, hfx⟩ := Has3.out.getI hlj
                obtain ⟨b8, o8, y, hdy, rfl, _, hcy, hfy⟩ := Hcf3.out.getI hlx
                obtain ⟨hm0, hm1⟩ := mul_bd (Hok.out.k y (mem_of_drop hdy.out)) (Hok.out.a x (mem_of_drop hdx.out))
                have hw1 : -9223372036854775808 ≤ s + y * x ∧ s + y * x ≤ 9223372036854775807 := by omega
                clear m1 s1
                go_wp2
                go_round
                case rel =>
                  refine ⟨j + 1, by omega, by go_num, s + y * x, by go_num, by omega, by omega, ?_⟩
                  unfold Hid; rw [hd2.out, fdot_cons hdy.out hdx.out]; omega
                case measure => simp [intOf]; omega
              case neg =>
                have he : worthF f m.args = s := by rw [hd2.out, drop_end hlj, drop_end (xs := f.coefs) (by have := Hln.out; omega)]; unfold fdot; omega
                have He := Lib.hid he; clear he
                clear m1 s1
                cases fb
                · go_wp2
                  go_roundw
                  case rel => exact ⟨q + 1, hlg, by go_num, false, rfl, Hb23, by omega, by unfold Hid; rw [hall2.out]; rfl⟩
                  case measure => simp [intOf]; omega
                · by_cases hv : s < 0
                  · go_wp2
                    go_roundw
                    case rel => exact ⟨q + 1, hlg, by go_num, false, by rw [decide_eq_false (by omega)], Hb23, by omega, by unfold Hid; rw [hall2.out, hdf.out, List.all_cons, He.out, decide_eq_false (by omega)]; rfl⟩
                    case measure => simp [intOf]; omega
                  · go_wp2
                    go_roundw
                    case rel => exact ⟨q + 1, hlg, by go_num, true, by rw [decide_eq_true (by omega)], Hb23, by omega, by unfold Hid; rw [hall2.out, hdf.out, List.all_cons, He.out, decide_eq_true (by omega)]; rfl⟩
                    case measure => simp [intOf]; omega
      all_goals
        have hn := Hnext.out hf
        have Hf := Lib.hid hf; clear hf
        have Hn := Lib.hid hn; clear hn
        (try rw [e2] at HcL)
        (try rw [e3] at HcR)
        refine wp_region_quiet_below (by kernel_rfl) (by kernel_rfl) ?_
        iterate 31 (go_big_quiet_step (exact (HcL.out _ _).mono fun e w'' h => h))
        iterate 14 (go_big_quiet_step (exact (HcR.out _ _).mono fun e w'' h => h))
        refine wpQuiet_nil ?_
        intro _ hw'
        obtain ⟨⟨dq, osq⟩, hw''⟩ := hw'
        subst hw''
        have hbr := below_regrown W1 dq osq
        generalize grow (redrawn W1 dq) osq = w5 at hbr ⊢
        have hz5 := hbr.size
        have hb5 : Below W0.heap.size W0 w5 := hb.out.trans ((Hb1.out.trans (hbr.mono (by omega))).mono hsz)
        have Hb5 := Lib.hid hb5; clear hb5
        clear kx0 kx1 kx2 kx3 km0 km1 km2 km3 ks0 ks1 ks2 ks3 hbr
        go_wp2
        go_roundw
        case rel => exact ⟨k + 1, hlt, by go_num, Hb5, by omega, Hn⟩
        case measure => simp [intOf]; omega
end Go.Proofs.YtpeknefmjdipmaaGreatDoor
