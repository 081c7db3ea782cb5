/-
  Layer 7: the walks of find, Fits, First.
-/
import Derived.Test.YtlipmagkplbkdaaDoorFf
import Derived.Test.YtlipmagkplbkdaaDoorFe
import Derived.Deep.LoopGhost
namespace Go.Proofs.YtlipmagkplbkdaaDoor
open Go.RowKit Go.Sort

theorem fitsF_name {r : Rul} {m : Mod} (h : (r.name != m.name) = true) : fitsF r m = false := by
  have h' : (r.name == m.name) = false := by simpa using h
  unfold fitsF; rw [h']; rfl
theorem fitsF_arity {r : Rul} {m : Mod} (h : (r.arity != (m.args.length : Int)) = true) : fitsF r m = false := by
  have h' : (r.arity == (m.args.length : Int)) = false := by simpa using h
  unfold fitsF; rw [h', Bool.and_false, Bool.false_and]
theorem fitsF_else {r : Rul} {m : Mod} (h1 : (r.name != m.name) = false) (h2 : (r.arity != (m.args.length : Int)) = false) : fitsF r m = r.guards.all (fun g => decide (0 ≤ worthF g m.args)) := by
  have h3 : (r.name == m.name) = true := by simpa using h1
  have h4 : (r.arity == (m.args.length : Int)) = true := by simpa using h2
  unfold fitsF; rw [h3, h4]; rfl
theorem firstFrom_no {m : Mod} {r : Rul} {rs : List Rul} {k : Nat} (h : fitsF r m = false) : firstFrom m (r :: rs) k = firstFrom m rs (k + 1) := by
  conv => lhs; unfold firstFrom
  rw [if_neg (by rw [h]; decide)]
theorem firstFrom_yes {m : Mod} {r : Rul} {rs : List Rul} {k : Nat} (h : fitsF r m = true) : firstFrom m (r :: rs) k = (k : Int) := by
  unfold firstFrom
  rw [if_pos h]
/-- a guard of a rule that has the module's arity -/
theorem guardOk {r : Rul} {m : Mod} (h : coreR r = true) (ha : (r.arity != (m.args.length : Int)) = false) (hm : m.args.all argOk = true ∧ m.args.length ≤ 4) {g : Frm} (hg : g ∈ r.guards) : SumOk g m.args := by
  have h4 : r.arity = (m.args.length : Int) := by simpa using ha
  have := (fineR_guards h).2.2.1 g hg
  rw [h4, Int.toNat_natCast] at this
  exact sumOk this hm.1 hm.2
theorem fine_args {m : Mod} (h : fineF m = true) : m.args.all argOk = true ∧ m.args.length ≤ 4 := by
  unfold fineF shapeOk at h
  simp only [Bool.and_eq_true, Bool.or_eq_true, beq_iff_eq, decide_eq_true_eq] at h
  refine ⟨h.1.2, ?_⟩
  rcases h.2 with h | h
  · omega
  · exact h.1.1

set_option maxRecDepth 100000 in
set_option maxHeartbeats 2000000 in
theorem find_calls (A : Option Addr) (c : Nat) (rs : List Rul) (A' : Option Addr) (c' : Nat) (m : Mod) (w : World) (h : SlAt pRul (Old w) w A c rs) (h' : SlAt (pI .i64) (Old w) w A' c' m.args) (hs : rs.all coreR = true) (hm : m.args.all argOk = true ∧ m.args.length ≤ 4) :
    Calls Tryd.prog 89 #[.slice A rs.length c, .agg #[.int .u8 m.name, .slice A' m.args.length c']] w (IntPost (firstF rs m) w) := by
  have hmx := h.lenle
  have hmx' := h'.lenle
  obtain ⟨W0, hW0⟩ : ∃ W0, W0 = w.alloc (.cells #[.int .u8 m.name, .slice A' m.args.length c'] 49) := ⟨_, rfl⟩
  have hb0 : Below w.heap.size w W0 := by rw [hW0]; exact (Below.refl _ _).alloc (Nat.le_refl _) _
  have hz0 : w.heap.size + 1 ≤ W0.heap.size := by rw [hW0]; simp
  have hbl0 : Blk W0 w.heap.size 49 #[.int .u8 m.name, .slice A' m.args.length c'] := by rw [hW0]; exact Blk.new _ _ _
  have H := Lib.hid h; clear h
  have H' := Lib.hid h'; clear h'
  have Hb0 := Lib.hid hb0; clear hb0
  have Hbl0 := Lib.hid hbl0; clear hbl0
  have Hm := Lib.hid hm; clear hm
  have Hs := Lib.hid hs; clear hs
  go_enter Tryd.func89, Tryd.ntmps89
  go_wp2
  go_step3
  go_wp2
  go_step3
  go_wp2
  rw [← hW0]
  have HW0 := Lib.hid hW0; clear hW0
  go_loopg [11] rs.length (fun g i wr => ∃ k : Nat, k + g = rs.length ∧ i = .int .i64 k ∧ Hid (Below (w.heap.size + 1) W0 wr) ∧ w.heap.size + 1 ≤ wr.heap.size ∧ Hid (firstF rs m = firstFrom m (rs.drop k) k))
  case atStart => exact ⟨0, by omega, rfl, Below.refl _ _, hz0, rfl⟩
  case round =>
    obtain ⟨k, hkg, rfl, hb, hsz, hall⟩ := hrel
    obtain ⟨wo, rfl⟩ : ∃ wo : World, wo = wr := ⟨_, rfl⟩
    have hbwo : Below w.heap.size w wo := Hb0.out.trans (hb.out.mono (Nat.le_succ _))
    have Hbwo := Lib.hid hbwo; clear hbwo
    cases gk with
    | zero =>
      have hlt : ¬ k < rs.length := by omega
      have hf : firstF rs m = -1 := by rw [hall.out, drop_end hlt]; rfl
      have Hf := Lib.hid hf; clear hf
      go_wp2
      try rw [Exit.noGoto_ret]
      go_ret
      exact ⟨by rw [Hf.out]; rfl, Hbwo.out⟩
    | succ g =>
      have hlt : k < rs.length := by omega
      obtain ⟨b, o, A1, c1, A2, c2, r, hd, rfl, hob, k0, k1, k2, k3, k4, k5, k6, hat, hl1, hl2⟩ := (H.out.below Hbwo.out).getRulAt hlt
      have hob' : b < wo.heap.size := by have : b < w.heap.size := hob; omega
      have hwl : w.heap.size < wo.heap.size := by omega
      have hblo := Hbl0.out.same (hb.out.block _ (Nat.lt_succ_self _))
      have y0 := hblo.cell 0
      have y1 := hblo.cell 1
      have hco : coreR r = true := List.all_eq_true.1 Hs.out r (mem_of_drop hd.out)
      have Hblo := Lib.hid hblo; clear hblo
      have Hco := Lib.hid hco; clear hco
      have next : fitsF r m = false → firstF rs m = firstFrom m (rs.drop (k + 1)) (k + 1) := fun hf => by rw [hall.out, hd.out, firstFrom_no hf]
      have Next := Lib.hid next; clear next
      have hbr : Below (w.heap.size + 1) W0 (wo.alloc (.cells #[.int .u8 r.name, .int .i64 r.arity, .int .u8 r.left, .int .u8 r.right, .slice A1 r.guards.length c1, .int .i64 r.weight, .slice A2 r.out.length c2] 60)) := hb.out.alloc hsz _
      have Hbr := Lib.hid hbr; clear hbr
      cases hn1 : (r.name != m.name)
      · cases hn2 : (r.arity != (m.args.length : Int))
        · have hff := fitsF_else hn1 hn2
          have hgo := fun (x : Frm) (hx : x ∈ r.guards) => guardOk Hco.out hn2 Hm.out hx
          have Hff := Lib.hid hff; clear hff
          have Hgo := Lib.hid hgo; clear hgo
          go_wp2
          obtain ⟨W1, hW1⟩ : ∃ W1, W1 = wo.alloc (.cells #[.int .u8 r.name, .int .i64 r.arity, .int .u8 r.left, .int .u8 r.right, .slice A1 r.guards.length c1, .int .i64 r.weight, .slice A2 r.out.length c2] 60) := ⟨_, rfl⟩
          have hz1 : wo.heap.size + 1 ≤ W1.heap.size := by rw [hW1]; simp
          have hb1 : Below wo.heap.size wo W1 := by rw [hW1]; exact (Below.refl _ _).alloc (Nat.le_refl _) _
          rw [← hW1] at Hbr ⊢
          have hgs : SlAt pFrm (Old w) W1 A1 c1 r.guards := hat.out.sg.keep fun q hq => hb1.block q (by have : q < w.heap.size := hq; omega)
          have has : SlAt (pI .i64) (Old w) W1 A' c' m.args := ((H'.out.below Hbwo.out)).keep fun q hq => hb1.block q (by have : q < w.heap.size := hq; omega)
          have hbl1 := Hblo.out.same (hb1.block _ hwl)
          have HW1 := Lib.hid hW1; clear hW1
          have Hb1 := Lib.hid hb1; clear hb1
          have Hgs := Lib.hid hgs; clear hgs
          have Has := Lib.hid has; clear has
          have Hbl1 := Lib.hid hbl1; clear hbl1
          clear k0 k1 k2 k3 k4 k5 k6 y0 y1 hn1 hn2
          go_loopg [32] r.guards.length (fun g2 i wr => ∃ j : Nat, j + g2 = r.guards.length ∧ i = .int .i64 j ∧ Hid (Below W1.heap.size W1 wr) ∧ W1.heap.size ≤ wr.heap.size ∧ Hid (fitsF r m = (r.guards.drop j).all (fun g => decide (0 ≤ worthF g m.args))))
          case atStart => exact ⟨0, by omega, rfl, Below.refl _ _, Nat.le_refl _, Hff⟩
          case round =>
            obtain ⟨j, hjg, rfl, hb2, hsz2, hall2⟩ := hrel
            obtain ⟨wp, rfl⟩ : ∃ wp : World, wp = wr := ⟨_, rfl⟩
            cases gk with
            | zero =>
              have hlt : ¬ j < r.guards.length := by omega
              have hf : firstF rs m = (k : Int) := by rw [hall.out, hd.out, firstFrom_yes (by rw [hall2.out, drop_end hlt]; rfl)]
              have Hf := Lib.hid hf; clear hf
              go_wp2
              try rw [Exit.noGoto_ret]
              go_ret
              exact ⟨by rw [Hf.out]; rfl, Hbwo.out.trans ((Hb1.out.trans (hb2.out.mono (by omega))).mono (by omega))⟩
            | succ g2 =>
              have hlt : j < r.guards.length := by omega
              obtain ⟨b3, o3, A3, c3, f, hdf, rfl, hob3, hs0, hs1, hsc, hsa, hsl⟩ := (Hgs.out.keep fun q hq => hb2.out.block q (by have : q < w.heap.size := hq; omega)).getFrm hlt
              have hob3' : b3 < wp.heap.size := by have : b3 < w.heap.size := hob3; omega
              have hwl2 : w.heap.size < wp.heap.size := by omega
              have hblp := Hbl1.out.same (hb2.out.block _ (by omega))
              have y0 := hblp.cell 0
              have y1 := hblp.cell 1
              have hok := Hgo.out f (mem_of_drop hdf.out)
              have hasp := Has.out.keep (w' := wp) fun q hq => hb2.out.block q (by have : q < w.heap.size := hq; omega)
              have hcall : ∀ W : World, Below wp.heap.size wp W → Calls Tryd.prog 86 #[.agg #[.int .i64 f.const, .slice A3 f.coefs.length c3], .slice A' m.args.length c'] W (IntPost (worthF f m.args) W) := fun W hW =>
                worth_calls (F := Old w) A3 c3 f A' c' m.args W (hsa.out.keep fun q hq => hW.block q (by have : q < w.heap.size := hq; omega)) (hasp.keep fun q hq => hW.block q (by have : q < w.heap.size := hq; omega)) (fun q hq => by have : q < w.heap.size := hq; have := hW.size; omega) hok
              have hbd := worth_bd hok
              have Hcall := Lib.hid hcall; clear hcall
              have Hok := Lib.hid hok; clear hok
              have Hasp := Lib.hid hasp; clear hasp
              have Hblp := Lib.hid hblp; clear hblp
              go_wp2_with fail
              refine (Hcall.out _ ((Below.refl _ _).alloc (Nat.le_refl _) _)).mono ?_
              rintro e w5 ⟨rfl, hb5⟩
              have hbp5 : Below wp.heap.size wp w5 := ((Below.refl _ _).alloc (Nat.le_refl _) _).trans (hb5.mono (by simp))
              have hz5 := hbp5.size
              have Hbp5 := Lib.hid hbp5; clear hbp5
              clear hb5 hs0 hs1 y0 y1
              obtain ⟨v, hvv⟩ : ∃ v, worthF f m.args = v := ⟨_, rfl⟩
              have Hvv := Lib.hid hvv
              rw [hvv] at hbd ⊢
              clear hvv
              by_cases hv : v < 0
              · have hnf : fitsF r m = false := by rw [hall2.out, hdf.out, List.all_cons, Hvv.out, decide_eq_false (by omega)]; rfl
                have hnx := Next.out hnf
                have Hnx := Lib.hid hnx; clear hnx
                clear hnf
                go_wp2
                go_roundg g
                case measure => omega
                case rel =>
                  refine ⟨k + 1, by omega, by go_num, ?_, by omega, Hnx⟩
                  exact Hbr.out.trans ((hb2.out.trans (Hbp5.out.mono hsz2)).mono (by omega))
              · go_wp2
                go_roundg g2
                case measure => omega
                case rel =>
                  refine ⟨j + 1, by omega, by go_num, hb2.out.trans (Hbp5.out.mono hsz2), by omega, ?_⟩
                  unfold Hid; rw [hall2.out, hdf.out, List.all_cons, Hvv.out, decide_eq_true (by omega)]; rfl
        · have hnx := Next.out (fitsF_arity hn2)
          have Hnx := Lib.hid hnx; clear hnx
          go_wp2
          go_roundg g
          case measure => omega
          case rel => exact ⟨k + 1, by omega, by go_num, Hbr, by simp; omega, Hnx⟩
      · have hnx := Next.out (fitsF_name hn1)
        have Hnx := Lib.hid hnx; clear hnx
        go_wp2
        go_roundg g
        case measure => omega
        case rel => exact ⟨k + 1, by omega, by go_num, Hbr, by simp; omega, Hnx⟩
set_option maxRecDepth 100000 in
set_option maxHeartbeats 2000000 in
theorem fits_calls (r : Rul) (A : Option Addr) (c : Nat) (A2 : Option Addr) (c2 : Nat) (A' : Option Addr) (c' : Nat) (m : Mod) (w : World) (h : RulAt r (Old w) w A c A2 c2) (h' : SlAt (pI .i64) (Old w) w A' c' m.args) (hs : coreR r = true) (hm : m.args.all argOk = true ∧ m.args.length ≤ 4) :
    Calls Tryd.prog 34 #[.agg #[.int .u8 r.name, .int .i64 r.arity, .int .u8 r.left, .int .u8 r.right, .slice A r.guards.length c, .int .i64 r.weight, .slice A2 r.out.length c2], .agg #[.int .u8 m.name, .slice A' m.args.length c']] w (BoolPost (fitsF r m) w) := by
  have hmx := h.sg.lenle
  have hmx' := h'.lenle
  obtain ⟨W0, hW0⟩ : ∃ W0, W0 = (w.alloc (.cells #[.int .u8 r.name, .int .i64 r.arity, .int .u8 r.left, .int .u8 r.right, .slice A r.guards.length c, .int .i64 r.weight, .slice A2 r.out.length c2] 60)).alloc (.cells #[.int .u8 m.name, .slice A' m.args.length c'] 49) := ⟨_, rfl⟩
  have hb0 : Below w.heap.size w W0 := by rw [hW0]; exact ((Below.refl _ _).alloc (Nat.le_refl _) _).alloc (by simp) _
  have hz0 : w.heap.size + 2 ≤ W0.heap.size := by rw [hW0]; simp
  have hbr0 : Blk W0 w.heap.size 60 #[.int .u8 r.name, .int .i64 r.arity, .int .u8 r.left, .int .u8 r.right, .slice A r.guards.length c, .int .i64 r.weight, .slice A2 r.out.length c2] := by rw [hW0]; exact (Blk.new _ _ _).alloc _
  have hbl0 : Blk W0 (w.heap.size + 1) 49 #[.int .u8 m.name, .slice A' m.args.length c'] := by
    rw [hW0]
    have := Blk.new (w.alloc (.cells #[.int .u8 r.name, .int .i64 r.arity, .int .u8 r.left, .int .u8 r.right, .slice A r.guards.length c, .int .i64 r.weight, .slice A2 r.out.length c2] 60)) 49 #[.int .u8 m.name, .slice A' m.args.length c']
    rwa [show (w.alloc (.cells #[.int .u8 r.name, .int .i64 r.arity, .int .u8 r.left, .int .u8 r.right, .slice A r.guards.length c, .int .i64 r.weight, .slice A2 r.out.length c2] 60)).heap.size = w.heap.size + 1 from by simp] at this
  have H := Lib.hid h; clear h
  have H' := Lib.hid h'; clear h'
  have Hb0 := Lib.hid hb0; clear hb0
  have Hbl0 := Lib.hid hbl0; clear hbl0
  have Hbr0 := Lib.hid hbr0; clear hbr0
  have Hm := Lib.hid hm; clear hm
  have Hs := Lib.hid hs; clear hs
  have HW0 := Lib.hid hW0; clear hW0
  cases hn1 : (r.name != m.name)
  · cases hn2 : (r.arity != (m.args.length : Int))
    · have hff := fitsF_else hn1 hn2
      have hgo := fun (x : Frm) (hx : x ∈ r.guards) => guardOk Hs.out hn2 Hm.out hx
      have Hff := Lib.hid hff; clear hff
      have Hgo := Lib.hid hgo; clear hgo
      go_enter Tryd.func34, Tryd.ntmps34
      go_wp2
      rw [← HW0.out]
      clear hn1 hn2
      go_loopw [5] (fun i wr => ∃ j : Nat, j ≤ r.guards.length ∧ i = .int .i64 j ∧ Hid (Below W0.heap.size W0 wr) ∧ W0.heap.size ≤ wr.heap.size ∧ Hid (fitsF r m = (r.guards.drop j).all (fun g => decide (0 ≤ worthF g m.args)))) (fun i _ => r.guards.length - (intOf i).toNat)
      case atStart => exact ⟨0, Nat.zero_le _, rfl, Below.refl _ _, Nat.le_refl _, Hff⟩
      case round =>
        obtain ⟨j, hj, rfl, hb, hsz, hall⟩ := hrel
        obtain ⟨wo, rfl⟩ : ∃ wo : World, wo = wr := ⟨_, rfl⟩
        have hbwo : Below w.heap.size w wo := Hb0.out.trans (hb.out.mono (by omega))
        have hbro := Hbr0.out.same (hb.out.block _ (by omega))
        have hblo := Hbl0.out.same (hb.out.block _ (by omega))
        obtain ⟨x0, x1, x2, x3, x4, x5, x6⟩ := hbro.rul
        have y1 := hblo.cell 1
        simp only [List.getElem?_toArray, List.getElem?_cons_succ, List.getElem?_cons_zero] at y1
        clear x0 x1 x2 x3 x5 x6
        have Hbwo := Lib.hid hbwo; clear hbwo
        have Hbro := Lib.hid hbro; clear hbro
        have Hblo := Lib.hid hblo; clear hblo
        by_cases hlt : j < r.guards.length
        · obtain ⟨b3, o3, A3, c3, f, hdf, rfl, hob3, hs0, hs1, hsc, hsa, hsl⟩ := (H.out.sg.below Hbwo.out).getFrm hlt
          have hok := Hgo.out f (mem_of_drop hdf.out)
          have hbd := worth_bd hok
          have hasp := H'.out.below Hbwo.out
          have hk0 : (0 : Int) ≤ (j : Int) := Int.natCast_nonneg _
          have hk1 : (j : Int) < (r.guards.length : Int) := by omega
          have kx0 := cell_regrown hs0
          have kx1 := cell_regrown hs1
          have ky1 := cell_regrown y1
          have kz4 := cell_regrown x4
          have hcall : ∀ (q : Nat) (os : Array Obj), Calls Tryd.prog 56 #[.agg #[.int .i64 f.const, .slice A3 f.coefs.length c3], .slice A' m.args.length c'] (grow (redrawn wo q) os) fun e w'' => e = .returned (.int .i64 (worthF f m.args)) ∧ ∃ p : Regrown, w'' = grow (redrawn wo p.d) p.os := fun q os =>
            have hg := below_regrown wo q os
            Calls.regrown_of (refWorth_calls (F := Old w) A3 c3 f A' c' m.args _ (hsa.out.keep fun q hq => hg.block q (by have : q < w.heap.size := hq; omega)) (hasp.keep fun q hq => hg.block q (by have : q < w.heap.size := hq; omega)) (fun q hq => by have : q < w.heap.size := hq; have := hg.size; omega) hok)
          obtain ⟨v, hvv⟩ : ∃ v, worthF f m.args = v := ⟨_, rfl⟩
          rw [hvv] at hbd hcall
          have Hcall := Lib.hid hcall; clear hcall
          have Hok := Lib.hid hok; clear hok
          have Hasp := Lib.hid hasp; clear hasp
          have Hvv := Lib.hid hvv; clear hvv
          clear hs0 hs1 y1
          go_wp2
          clear x4
          refine wp_region_quiet_below (by kernel_rfl) (by kernel_rfl) ?_
          repeat (quiet_step (exact Hcall.out _ _))
          refine wpQuiet_nil ?_
          intro _ hw'
          obtain ⟨⟨dq, osq⟩, hw''⟩ := hw'
          subst hw''
          have hbr := below_regrown wo dq osq
          have hzr := hbr.size
          have hbw : Below w.heap.size w (grow (redrawn wo dq) osq) := Hbwo.out.trans (hbr.mono (by omega))
          have hb1 : Below W0.heap.size W0 (grow (redrawn wo dq) osq) := hb.out.trans (hbr.mono hsz)
          have Hbw := Lib.hid hbw; clear hbw
          have Hb1 := Lib.hid hb1; clear hb1
          clear hbr kx0 kx1 ky1 kz4
          by_cases hv : v < 0
          · go_wp2
            go_ret
            exact ⟨ret_bool (by rw [hall.out, hdf.out, List.all_cons, Hvv.out, decide_eq_false (by omega)]; rfl), Hbw.out⟩
          · go_wp2
            go_roundw
            case rel =>
              refine ⟨j + 1, by omega, by go_num, Hb1, by omega, ?_⟩
              unfold Hid; rw [hall.out, hdf.out, List.all_cons, Hvv.out, decide_eq_true (by omega)]; rfl
            case measure => simp [intOf]; omega
        · go_wp2
          go_ret
          exact ⟨ret_bool (by rw [hall.out, drop_end hlt]; rfl), Hbwo.out⟩
    · have hno := fitsF_arity hn2
      have Hno := Lib.hid hno; clear hno
      go_enter Tryd.func34, Tryd.ntmps34
      go_wp2
      go_ret
      exact ⟨by rw [Hno.out]; rfl, by rw [← HW0.out]; exact Hb0.out⟩
  · have hno := fitsF_name hn1
    have Hno := Lib.hid hno; clear hno
    go_enter Tryd.func34, Tryd.ntmps34
    go_wp2
    go_ret
    exact ⟨by rw [Hno.out]; rfl, by rw [← HW0.out]; exact Hb0.out⟩
end Go.Proofs.YtlipmagkplbkdaaDoor
