/-
  Layer 7: the walk of the reference's Made.
-/
import Derived.Test.YtnffihghhkapjaaRp
import Derived.Test.YtnffihghhkapjaaFd
namespace Go.Proofs.Ytnffihghhkapjaa
open Go.RowKit Go.Sort

def madeR (r : Rul) (m : Mod) : List Mod × Bool := if madeOk r m = true then (madeL r m, true) else ([], false)
def MadePost (r : Rul) (m : Mod) (w : World) (e : Ending) (w' : World) : Prop :=
  ∃ A c, e = .returned (.tuple #[.slice A (madeR r m).1.length c, .bool (madeR r m).2]) ∧ Own pMod 52 w.heap.size (w.heap.size ≤ ·) w' (.slice A (madeR r m).1.length c) (madeR r m).1 ∧ Below w.heap.size w w'
/-- what a rule that fits brings: its forms may be reckoned, its shapes are short -/
theorem fit_sums {r : Rul} {m : Mod} (hco : coreR r = true) (hfit : fitsF r m = true) (hm : m.args.all argOk = true ∧ m.args.length ≤ 4) : (∀ s ∈ r.out, ∀ f ∈ s.args, SumOk f m.args) ∧ ∀ s ∈ r.out, s.args.length ≤ 4 := by
  have har : r.arity = (m.args.length : Int) := by
    unfold fitsF at hfit
    simp only [Bool.and_eq_true, beq_iff_eq] at hfit
    exact hfit.1.2
  refine ⟨fun s hs f hf => ?_, fun s hs => ?_⟩
  · have h1 := (fineR_guards hco).2.2.2 s hs f hf
    rw [har, Int.toNat_natCast] at h1
    exact sumOk h1 hm.1 hm.2
  · have h1 := List.all_eq_true.1 (checkF_iff.1 (core_out hco).1).2.1 _ (List.mem_map.2 ⟨s, hs, rfl⟩)
    have h2 := (fine_args h1).2
    simpa using h2
def okS (args : List Int) (s : Shp) : Bool := s.args.all fun f => argOk (worthF f args)

set_option maxRecDepth 100000 in
set_option maxHeartbeats 4000000 in
theorem refMade_calls (r : Rul) (A : Option Addr) (c : Nat) (A2 : Option Addr) (c2 : Nat) (A' : Option Addr) (c' : Nat) (m : Mod) (w : World) (h : RulAt r (Old w) w A c A2 c2) (h' : SlAt (pI .i64) (Old w) w A' c' m.args) (hco : coreR r = true) (hfit : fitsF r m = true) (hm : m.args.all argOk = true ∧ m.args.length ≤ 4) (ho30 : r.out.length ≤ 30) :
    Calls Try.prog 58 #[.agg #[.int .u8 r.name, .int .i64 r.arity, .int .u8 r.left, .int .u8 r.right, .slice A r.guards.length c, .int .i64 r.weight, .slice A2 r.out.length c2], .agg #[.int .u8 m.name, .slice A' m.args.length c']] w (MadePost r m w) := by
  obtain ⟨hsum, hs4⟩ := fit_sums hco hfit hm
  have hmx := h.so.lenle
  have hmx' := h'.lenle
  obtain ⟨W0, hW0⟩ : ∃ W0, W0 = (w.alloc (.cells #[.int .u8 r.name, .int .i64 r.arity, .int .u8 r.left, .int .u8 r.right, .slice A r.guards.length c, .int .i64 r.weight, .slice A2 r.out.length c2] 73)).alloc (.cells #[.int .u8 m.name, .slice A' m.args.length c'] 52) := ⟨_, rfl⟩
  have hb0 : Below w.heap.size w W0 := by rw [hW0]; exact ((Below.refl _ _).alloc (Nat.le_refl _) _).alloc (by simp) _
  have hz0 : w.heap.size + 2 ≤ W0.heap.size := by rw [hW0]; simp
  have hbr0 : Blk W0 w.heap.size 73 #[.int .u8 r.name, .int .i64 r.arity, .int .u8 r.left, .int .u8 r.right, .slice A r.guards.length c, .int .i64 r.weight, .slice A2 r.out.length c2] := by rw [hW0]; exact (Blk.new _ _ _).alloc _
  have hbl0 : Blk W0 (w.heap.size + 1) 52 #[.int .u8 m.name, .slice A' m.args.length c'] := by
    rw [hW0]
    have := Blk.new (w.alloc (.cells #[.int .u8 r.name, .int .i64 r.arity, .int .u8 r.left, .int .u8 r.right, .slice A r.guards.length c, .int .i64 r.weight, .slice A2 r.out.length c2] 73)) 52 #[.int .u8 m.name, .slice A' m.args.length c']
    rwa [show (w.alloc (.cells #[.int .u8 r.name, .int .i64 r.arity, .int .u8 r.left, .int .u8 r.right, .slice A r.guards.length c, .int .i64 r.weight, .slice A2 r.out.length c2] 73)).heap.size = w.heap.size + 1 from by simp] at this
  have hok0 : madeOk r m = r.out.all (okS m.args) := rfl
  have H := Lib.hid h; clear h
  have H' := Lib.hid h'; clear h'
  have Hb0 := Lib.hid hb0; clear hb0
  have Hbl0 := Lib.hid hbl0; clear hbl0
  have Hbr0 := Lib.hid hbr0; clear hbr0
  have Hm := Lib.hid hm; clear hm
  have Hsum := Lib.hid hsum; clear hsum
  have Hs4 := Lib.hid hs4; clear hs4
  have HW0 := Lib.hid hW0; clear hW0
  have Hok0 := Lib.hid hok0; clear hok0
  clear hco hfit
  go_enter Try.func58, Try.ntmps58
  go_wp2
  rw [← HW0.out]
  go_loopw [7, 6] (fun i out wr => ∃ (k : Nat) (Ao : Option Addr) (co : Nat), k ≤ r.out.length ∧ i = .int .i64 k ∧ out = .slice Ao k co ∧ Hid (Below W0.heap.size W0 wr) ∧ W0.heap.size ≤ wr.heap.size ∧ Hid (madeOk r m = (r.out.drop k).all (okS m.args)) ∧
    Hid (Own pMod 52 W0.heap.size (W0.heap.size ≤ ·) wr (.slice Ao k co) ((r.out.take k).map fun s => (outF m.args s).1))) (fun i _ _ => r.out.length - (intOf i).toNat)
  case atStart => exact ⟨0, none, 0, Nat.zero_le _, rfl, rfl, Below.refl _ _, Nat.le_refl _, Hok0, Own.nil⟩
  case round =>
    obtain ⟨k, Ao, co, hk, rfl, rfl, hb, hsz, hall, hown⟩ := hrel
    obtain ⟨wo, rfl⟩ : ∃ wo : World, wo = wr := ⟨_, rfl⟩
    have hbwo : Below w.heap.size w wo := Hb0.out.trans (hb.out.mono (by omega))
    have hbro := Hbr0.out.same (hb.out.block _ (by omega))
    obtain ⟨x0, x1, x2, x3, x4, x5, x6⟩ := hbro.rul
    clear x0 x1 x2 x3 x4 x5
    have Hbwo := Lib.hid hbwo; clear hbwo
    by_cases hlt : k < r.out.length
    case neg =>
      obtain rfl : k = r.out.length := by omega
      have hmk : madeR r m = (madeL r m, true) := by
        unfold madeR; rw [if_pos (by rw [hall.out, List.drop_length]; rfl)]
      have hown' := hown.out
      rw [List.take_length] at hown'
      have hfin : Own pMod 52 w.heap.size (w.heap.size ≤ ·) wo (.slice Ao r.out.length co) (madeL r m) := by
        obtain ⟨cells, ⟨h1, h2⟩, h3⟩ := hown'
        refine ⟨cells, ⟨h1, ?_⟩, h3.wide fun q hq => ⟨Nat.le_trans (by omega) hq.1, hq.2⟩⟩
        rcases h2 with h2 | ⟨g, cap, cur, hv, hg, q⟩
        · exact .inl h2
        · exact .inr ⟨g, cap, cur, hv, by omega, q⟩
      have hml : (madeL r m).length = r.out.length := by unfold madeL; rw [List.length_map]
      have Hmk := Lib.hid hmk; clear hmk
      have Hfin := Lib.hid hfin; clear hfin
      have Hml := Lib.hid hml; clear hml
      clear hown'
      go_wp2
      go_ret2
      exact ⟨Ao, co, by rw [Hmk.out, Hml.out]; rfl, by rw [Hmk.out, Hml.out]; exact Hfin.out, Hbwo.out⟩
    case pos =>
      obtain ⟨b, o, As, cs, s, hd, hA, hob, s0, s1, hs8, hsa, hsl⟩ := (H.out.so.below Hbwo.out).getShp hlt
      subst hA
      have hobw : b < w.heap.size := hob
      have hsm := mem_of_drop hd.out
      have hl4 := Hs4.out s hsm
      obtain ⟨wq0, hwq⟩ : ∃ wq, wq = wo.alloc (.cells #[.int .u8 s.name, .slice none 0 0] 52) := ⟨_, rfl⟩
      have hbq0 : Below wo.heap.size wo wq0 := by rw [hwq]; exact (Below.refl _ _).alloc (Nat.le_refl _) _
      have hzq0 : wo.heap.size + 1 ≤ wq0.heap.size := by rw [hwq]; simp
      have hbm0 : Blk wq0 wo.heap.size 52 #[.int .u8 s.name, .slice none 0 0] := by rw [hwq]; exact Blk.new _ _ _
      have how0 : Own (pI .i64) 3 (wo.heap.size + 1) (fun _ => False) wq0 (.slice none 0 0) ((s.args.take 0).map fun f => worthF f m.args) := Own.nil
      have hk0 : (0 : Int) ≤ (k : Int) := Int.natCast_nonneg _
      have hk1 : (k : Int) < (r.out.length : Int) := by omega
      have hhs : okS m.args s = (s.args.drop 0).all fun f => argOk (worthF f m.args) := rfl
      have Hsm := Lib.hid hsm; clear hsm
      have Hbq0 := Lib.hid hbq0; clear hbq0
      have Hbm0 := Lib.hid hbm0; clear hbm0
      have How0 := Lib.hid how0; clear how0
      have Hd := Lib.hid hd; clear hd
      have Hbro := Lib.hid hbro; clear hbro
      have Hhs := Lib.hid hhs; clear hhs
      go_wp2
      rw [← hwq]
      have Hwq := Lib.hid hwq; clear hwq
      clear s0 x6
      go_loopw [9] (fun p wr => ∃ (k3 : Nat) (Dv : Option Addr) (dv : Nat), k3 ≤ s.args.length ∧ p = .int .i64 k3 ∧ Hid (Below wo.heap.size wo wr) ∧ wo.heap.size + 1 ≤ wr.heap.size ∧ Hid (Blk wr wo.heap.size 52 #[.int .u8 s.name, .slice Dv k3 dv]) ∧
        Hid (okS m.args s = (s.args.drop k3).all fun f => argOk (worthF f m.args)) ∧
        Hid (Own (pI .i64) 3 (wo.heap.size + 1) (fun _ => False) wr (.slice Dv k3 dv) ((s.args.take k3).map fun f => worthF f m.args))) (fun p _ => s.args.length - (intOf p).toNat)
      case atStart => exact ⟨0, none, 0, Nat.zero_le _, rfl, Hbq0, hzq0, Hbm0, Hhs, How0⟩
      case round =>
        obtain ⟨k3, Dv, dv, hk3m, rfl, hbq, hzq, hbm, hoks, how⟩ := hrel
        obtain ⟨wq, rfl⟩ : ∃ wq : World, wq = wr := ⟨_, rfl⟩
        have hw0q : w.heap.size < wo.heap.size := by omega
        have hbrq := Hbro.out.same (hbq.out.block _ hw0q)
        obtain ⟨x0, x1, x2, x3, x4, x5, x6⟩ := hbrq.rul
        clear x0 x1 x2 x3 x4 x5
        have s1q := (cell_keep (o := o + k * 2 + 1) (hbq.out.block b (by omega))).trans s1
        have m0 := hbm.out.cell 0
        have m1 := hbm.out.cell 1
        by_cases hlt3 : k3 < s.args.length
        case neg =>
          obtain rfl : k3 = s.args.length := by omega
          have how' := how.out
          rw [List.take_length] at how'
          have hok1 : okS m.args s = true := by rw [hoks.out, List.drop_length]; rfl
          obtain ⟨A3, c3, e3, hsl3⟩ := (how'.flat (pI_flat _) (G' := (wo.heap.size + 1 ≤ ·))).fresh
          rw [List.length_map] at e3
          injection e3 with e31 e32 e33
          subst e31 e33
          have hR : pMod.R (fun q => wo.heap.size + 1 ≤ q ∧ q < wq.heap.size) wq [.int .u8 s.name, .slice Dv s.args.length dv] (outF m.args s).1 := ⟨Dv, dv, by simp [outF], hs8, hsl3⟩
          have howq : Own pMod 52 W0.heap.size (W0.heap.size ≤ ·) wq (.slice Ao k co) ((r.out.take k).map fun s => (outF m.args s).1) := hown.out.later hbq.out
          have hF : ∀ q, (wo.heap.size + 1 ≤ q ∧ q < wq.heap.size) → W0.heap.size ≤ q ∧ q < wq.heap.size ∧ some q ≠ (Value.slice Ao k co).ownBlock := fun q hq => ⟨by omega, hq.2, fun he => by have := (hown.out.lt q he.symm).2; omega⟩
          have hlk : ((r.out.take k).map fun s => (outF m.args s).1).length + 1 = k + 1 := by rw [List.length_map, List.length_take]; omega
          have hrk : Room (k + 1) := room_of (by omega)
          have hba : W0.heap.size ≤ wq.heap.size := by omega
          have Hok1 := Lib.hid hok1; clear hok1
          have HR := Lib.hid hR; clear hR
          have Howq := Lib.hid howq; clear howq
          have HF := Lib.hid hF; clear hF
          have Hlk := Lib.hid hlk; clear hlk
          have Hrk := Lib.hid hrk; clear hrk
          clear how' hsl3
          go_wp2_with ((with_reducible show wpList _ _ _ (Oper.mk (some 62) _ _ _ _ _ :: _) _ _); refine pushMod (xs := (r.out.take k).map fun s => (outF m.args s).1) (base := W0.heap.size) (G := (W0.heap.size ≤ ·)) 62 (.tmp 60) (.tmp 61) rfl rfl rfl rfl rfl (fun _ => rfl) (fun _ => rfl) Howq.out s.name Dv s.args.length dv rfl (outF m.args s).1 (fun q => wo.heap.size + 1 ≤ q ∧ q < wq.heap.size) HR.out HF.out (k + 1) Hlk.out Hrk.out hba ?_; intro A6 c6 w6 hown6 hg6)
          go_roundw
          case rel =>
            have hz6 := hg6.out.bel.size
            refine ⟨k + 1, A6, c6, hlt, by go_num, rfl, (hb.out.trans (hbq.out.mono hsz)).trans hg6.out.bel, by omega, ?_, ?_⟩
            · unfold Hid; rw [hall.out, Hd.out, List.all_cons, Hok1.out]; rfl
            · unfold Hid; rw [take_of_drop Hd.out, List.map_append]; exact hown6.out
          case measure => simp [intOf]; omega
        case pos =>
          obtain ⟨b6, o6, A6, c6, f, hdf, hAf, hob6, f0, f1, hfc, hfa, hfl⟩ := (hsa.out.keep fun q hq => hbq.out.block q (by have : q < w.heap.size := hq; omega)).getFrm hlt3
          subst hAf
          have hob6w : b6 < w.heap.size := hob6
          have hblq := Hbl0.out.same ((hb.out.trans (hbq.out.mono hsz)).block (w.heap.size + 1) (by omega))
          have y1 := hblq.cell 1
          simp only [List.getElem?_toArray, List.getElem?_cons_succ, List.getElem?_cons_zero] at y1 m1
          have hok := Hsum.out s Hsm.out f (mem_of_drop hdf.out)
          have hbd := worth_bd hok
          have hbwq : Below w.heap.size w wq := Hbwo.out.trans (hbq.out.mono (by omega))
          have haq := H'.out.below hbwq
          have hk30 : (0 : Int) ≤ (k3 : Int) := Int.natCast_nonneg _
          have hk31 : (k3 : Int) < (s.args.length : Int) := by omega
          have kx6 := cell_regrown x6
          have ks1 := cell_regrown s1q
          have kf0 := cell_regrown f0
          have kf1 := cell_regrown f1
          have ky1 := cell_regrown y1
          have hcall : ∀ (q : Nat) (os : Array Obj), Calls Try.prog 64 #[.agg #[.int .i64 f.const, .slice A6 f.coefs.length c6], .slice A' m.args.length c'] (grow (redrawn wq q) os) fun e w'' => e = .returned (.int .i64 (worthF f m.args)) ∧ ∃ p : Regrown, w'' = grow (redrawn wq p.d) p.os := fun q os =>
            have hg := below_regrown wq q os
            Calls.regrown_of (refWorth_calls (F := Old w) A6 c6 f A' c' m.args _ (hfa.out.keep fun q hq => hg.block q (by have : q < w.heap.size := hq; omega)) (haq.keep fun q hq => hg.block q (by have : q < w.heap.size := hq; omega)) (fun q hq => by have : q < w.heap.size := hq; have := hg.size; omega) hok)
          obtain ⟨v, hvv⟩ : ∃ v, worthF f m.args = v := ⟨_, rfl⟩
          rw [hvv] at hbd hcall
          have hstep : okS m.args s = (argOk v && (s.args.drop (k3 + 1)).all fun f => argOk (worthF f m.args)) := by rw [hoks.out, hdf.out, List.all_cons, hvv]
          have hvs : (s.args.take (k3 + 1)).map (fun f => worthF f m.args) = (s.args.take k3).map (fun f => worthF f m.args) ++ [v] := by
            rw [take_of_drop hdf.out, List.map_append, List.map_singleton, hvv]
          have Hcall := Lib.hid hcall; clear hcall
          have Hok := Lib.hid hok; clear hok
          have Haq := Lib.hid haq; clear haq
          have Hvv := Lib.hid hvv; clear hvv
          have Hstep := Lib.hid hstep; clear hstep
          have Hvs := Lib.hid hvs; clear hvs
          have Hbwq := Lib.hid hbwq; clear hbwq
          go_wp2
          clear x6 s1q f0 f1 y1 m0 m1
          refine wp_region_quiet_below (by kernel_rfl) (by kernel_rfl) ?_
          repeat (quiet_step (exact (Hcall.out _ _).mono fun e w'' h => h))
          refine wpQuiet_nil ?_
          intro _ hw'
          obtain ⟨⟨dq, osq⟩, hw''⟩ := hw'
          subst hw''
          have hbr := below_regrown wq dq osq
          generalize grow (redrawn wq dq) osq = w5 at hbr ⊢
          have hz5 := hbr.size
          have hbp5 : Below wo.heap.size wo w5 := hbq.out.trans (hbr.mono (by omega))
          have hbm5 := hbm.out.same (hbr.block _ (by omega))
          have how5 := how.out.later hbr
          have hbw5 : Below w.heap.size w w5 := Hbwq.out.trans (hbr.mono (by omega))
          have hln5 : ((s.args.take k3).map fun f => worthF f m.args).length + 1 = k3 + 1 := by rw [List.length_map, List.length_take]; omega
          have hrm5 : Room ((s.args.take k3).map fun f => worthF f m.args).length := room_of (by rw [List.length_map, List.length_take]; omega)
          have hba5 : wo.heap.size + 1 ≤ w5.heap.size := by omega
          have hlt5 : wo.heap.size < w5.heap.size := by omega
          have hne5 : some wo.heap.size ≠ (Value.slice Dv k3 dv).ownBlock := fun he => by have := how.out.lt _ he.symm; omega
          have hRv : (pI .i64).R (fun _ => False) w5 (Value.int .i64 v).cells.toList v := ⟨rfl, fits_i64 (by omega)⟩
          have m1 := hbm5.cell 1
          have Hbr := Lib.hid hbr; clear hbr
          have Hbp5 := Lib.hid hbp5; clear hbp5
          have Hbm5 := Lib.hid hbm5; clear hbm5
          have How5 := Lib.hid how5; clear how5
          have Hbw5 := Lib.hid hbw5; clear hbw5
          have Hln5 := Lib.hid hln5; clear hln5
          have Hrm5 := Lib.hid hrm5; clear hrm5
          have Hne5 := Lib.hid hne5; clear hne5
          have HRv := Lib.hid hRv; clear hRv
          clear kx6 ks1 kf0 kf1 ky1
          by_cases h1 : v < -1000000000
          · have hno : madeR r m = ([], false) := by
              unfold madeR; rw [if_neg]; rw [hall.out, Hd.out, List.all_cons, Hstep.out, argOk_no (.inl h1)]; simp
            have Hno := Lib.hid hno; clear hno
            go_wp2
            go_ret2
            exact ⟨none, 0, by rw [Hno.out]; rfl, by rw [Hno.out]; exact Own.nil, Hbw5.out⟩
          · by_cases h2 : 1000000000 < v
            · have hno : madeR r m = ([], false) := by
                unfold madeR; rw [if_neg]; rw [hall.out, Hd.out, List.all_cons, Hstep.out, argOk_no (.inr h2)]; simp
              have Hno := Lib.hid hno; clear hno
              go_wp2
              go_ret2
              exact ⟨none, 0, by rw [Hno.out]; rfl, by rw [Hno.out]; exact Own.nil, Hbw5.out⟩
            · have hoky := argOk_yes h1 h2
              have Hoky := Lib.hid hoky; clear hoky
              go_wp2_with ((with_reducible show wpList _ _ _ (Oper.mk (some 57) _ _ _ _ _ :: _) _ _); refine wpList_pushG (E := pI .i64) (xs := (s.args.take k3).map fun f => worthF f m.args) (v := .slice Dv k3 dv) (base := wo.heap.size + 1) (G := fun _ => False) 50 3 (.int .i64 0) 8 57 (.tmp 55) (.tmp 56) rfl rfl rfl rfl rfl Try.underlying50 (by kernel_rfl) rfl (by decide) (fun _ => rfl) (fun _ => rfl) How5.out (.int .i64 v) rfl v (fun _ => False) HRv.out (fun _ h => h.elim) (k3 + 1) Hln5.out Hrm5.out ⟨by decide, by decide⟩ hba5 ?_; intro A7 c7 w7 hown7 hg7; have hbm7 := Hbm5.out.same (hg7.out.oth _ hlt5 Hne5.out); have x7 := hbm7.cell 1; have f7 := hbm7.free 1; have Hbm7 := Lib.hid hbm7; clear hbm7)
              go_roundw
              case rel =>
                have hz7 := hg7.out.bel.size
                have hs7 : (w7.setCell ⟨wo.heap.size, 1, none⟩ (.slice A7 (k3 + 1) c7)).heap.size = w7.heap.size := by simp [World.setCell]
                refine ⟨k3 + 1, A7, c7, hlt3, by go_num, ?_, by omega, ?_, ?_, ?_⟩
                · exact (Hbp5.out.trans (hg7.out.bel.mono (by omega))).setCell (by show wo.heap.size ≤ wo.heap.size; omega) _
                · have := Hbm7.out.set 1 (.slice A7 (k3 + 1) c7)
                  unfold Hid
                  simpa using this
                · unfold Hid; rw [Hstep.out, Hoky.out]; rfl
                · unfold Hid
                  rw [Hvs.out]
                  refine hown7.out.keepG (fun q hq hG => Below.heap_setCell _ _ _ _ ?_) (by omega)
                  rcases hG with hG | hG
                  · exact hG.elim
                  · have := hown7.out.lt q hG
                    show q ≠ wo.heap.size
                    omega
              case measure => simp [intOf]; omega
end Go.Proofs.Ytnffihghhkapjaa
