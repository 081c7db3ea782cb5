/-
  Several texts in one.
-/
import Derived.Test.YtlipmagkplbkdaaDoorZ7
import Derived.Deep.QuietTactic
import Derived.BigQuiet
import Derived.Deep.RegionHeld3
import Derived.Lib.ItoaLen
import Derived.Lib.ItoaNum
import Derived.Lib.ItoaMem
import Derived.Lib.AtoiTie
import Derived.Lib.Strings
import Derived.Deep.LoopGhost
/-! Fd -/
namespace Go.Proofs.YtlipmagkplbkdaaDoor
open Go.RowKit Go.Sort
theorem coreR_cases (r : Rul) : (coreR r = false ∧ ((letterB r.name = false) ∨ (letterB r.name = true ∧ (r.name == 91) = true) ∨ (letterB r.name = true ∧ (r.name == 91) = false ∧ (r.name == 93) = true) ∨
      (letterB r.name = true ∧ (r.name == 91) = false ∧ (r.name == 93) = false ∧ r.arity < 0) ∨ (letterB r.name = true ∧ (r.name == 91) = false ∧ (r.name == 93) = false ∧ ¬ r.arity < 0 ∧ 4 < r.arity))) ∨
    (letterB r.name = true ∧ (r.name == 91) = false ∧ (r.name == 93) = false ∧ ¬ r.arity < 0 ∧ ¬ 4 < r.arity ∧
      coreR r = (r.guards.all (fun f => formF f r.arity.toNat) && (r.out.all (fun s => s.args.all (fun f => formF f r.arity.toNat)) && checkF (r.out.map fun s => ⟨s.name, List.replicate s.args.length 0⟩) == 0))) := by
  cases hl : letterB r.name
  · left; exact ⟨by unfold coreR; simp [hl], .inl rfl⟩
  by_cases h3 : r.name = 91
  · left; exact ⟨by unfold coreR; simp [h3], .inr (.inl ⟨rfl, by simp [h3]⟩)⟩
  by_cases h4 : r.name = 93
  · left; exact ⟨by unfold coreR; simp [h4], .inr (.inr (.inl ⟨rfl, by simp [h3], by simp [h4]⟩))⟩
  by_cases h1 : r.arity < 0
  · left; exact ⟨by unfold coreR; simp; omega, .inr (.inr (.inr (.inl ⟨rfl, by simp [h3], by simp [h4], h1⟩)))⟩
  by_cases h2 : 4 < r.arity
  · left; exact ⟨by unfold coreR; simp; omega, .inr (.inr (.inr (.inr ⟨rfl, by simp [h3], by simp [h4], h1, h2⟩)))⟩
  right
  refine ⟨rfl, by simp [h3], by simp [h4], h1, h2, ?_⟩
  unfold coreR
  simp only [hl, show (r.name != 91) = true by simp [h3], show (r.name != 93) = true by simp [h4], show decide (0 ≤ r.arity) = true by simp; omega, show decide (r.arity ≤ 4) = true by simp; omega, Bool.true_and, Bool.and_true, Bool.and_assoc]
theorem checkF_bad {ms : List Mod} {m : Mod} (hm : m ∈ ms) (hf : fineF m = false) (hl : ms.length ≤ 2000) : checkF ms = 8 := by
  unfold checkF
  rw [if_neg (by omega), if_pos]
  rw [List.all_eq_false]
  exact ⟨m, hm, by simp [hf]⟩
structure MadeM (wp W : World) (nm : Int) (n : Nat) (sh : Array Value) (gz gm : Nat) : Prop where
  bel : Below wp.heap.size wp W
  sz : wp.heap.size + 3 ≤ W.heap.size
  bs : Blk W wp.heap.size 72 sh
  bm : Blk W gm 49 #[.int .u8 nm, .slice (some ⟨gz, 0, none⟩) n n]
  zs : SlAt (pI .i64) (fun q => q = gz) W (some ⟨gz, 0, none⟩) n (List.replicate n 0)
  gt : wp.heap.size < gz ∧ gz < W.heap.size ∧ wp.heap.size < gm ∧ gm < W.heap.size
theorem madeM1 (wp : World) (nm : Int) (n : Nat) (hn : n ≤ 1000) (sh Z : Array Value) (hZ : madeCells #[Value.int .i64 0] n = Z) :
    MadeM wp (((wp.alloc (.cells sh 72)).alloc (.cells Z 3)).alloc (.cells #[.int .u8 nm, .slice (some ⟨wp.heap.size + 1, 0, none⟩) n n] 49)).drew nm n sh (wp.heap.size + 1) (wp.heap.size + 1 + 1) := by
  subst hZ
  have h1 := Blk.new (wp.alloc (.cells sh 72)) 3 (madeCells #[Value.int .i64 0] n)
  have h2 := Blk.new ((wp.alloc (.cells sh 72)).alloc (.cells (madeCells #[Value.int .i64 0] n) 3)) 49 #[.int .u8 nm, .slice (some ⟨wp.heap.size + 1, 0, none⟩) n n]
  rw [show (wp.alloc (.cells sh 72)).heap.size = wp.heap.size + 1 from by simp] at h1
  rw [show ((wp.alloc (.cells sh 72)).alloc (.cells (madeCells #[Value.int .i64 0] n) 3)).heap.size = wp.heap.size + 1 + 1 from by simp] at h2
  exact ⟨below_drew ((((Below.refl _ _).alloc (Nat.le_refl _) _).alloc (by simp) _).alloc (by simp; omega) _), by simp, ((Blk.new _ _ _).alloc _).alloc _, h2, (zeros_sl (F := fun q => q = wp.heap.size + 1) (h1.alloc _) rfl (by unfold maxLen; omega)).keep fun _ _ => rfl, by simp; omega⟩
theorem madeM2 (wp : World) (nm : Int) (n : Nat) (hn : n ≤ 1000) (sh Z : Array Value) (hZ : madeCells #[Value.int .i64 0] n = Z) :
    MadeM wp (((wp.alloc (.cells sh 72)).alloc (.cells #[.int .u8 nm, .slice (some ⟨wp.heap.size + 1 + 1, 0, none⟩) n n] 49)).alloc (.cells Z 3)).drew nm n sh (wp.heap.size + 1 + 1) (wp.heap.size + 1) := by
  subst hZ
  have h1 := Blk.new (wp.alloc (.cells sh 72)) 49 #[.int .u8 nm, .slice (some ⟨wp.heap.size + 1 + 1, 0, none⟩) n n]
  have h2 := Blk.new ((wp.alloc (.cells sh 72)).alloc (.cells #[.int .u8 nm, .slice (some ⟨wp.heap.size + 1 + 1, 0, none⟩) n n] 49)) 3 (madeCells #[Value.int .i64 0] n)
  rw [show (wp.alloc (.cells sh 72)).heap.size = wp.heap.size + 1 from by simp] at h1
  rw [show ((wp.alloc (.cells sh 72)).alloc (.cells #[.int .u8 nm, .slice (some ⟨wp.heap.size + 1 + 1, 0, none⟩) n n] 49)).heap.size = wp.heap.size + 1 + 1 from by simp] at h2
  exact ⟨below_drew ((((Below.refl _ _).alloc (Nat.le_refl _) _).alloc (by simp) _).alloc (by simp; omega) _), by simp, ((Blk.new _ _ _).alloc _).alloc _, h1.alloc _, (zeros_sl (F := fun q => q = wp.heap.size + 1 + 1) h2 rfl (by unfold maxLen; omega)).keep fun _ _ => rfl, by simp; omega⟩
set_option maxRecDepth 100000 in
set_option maxHeartbeats 2000000 in
theorem refRFine_calls (r : Rul) (A : Option Addr) (c : Nat) (A' : Option Addr) (c' : Nat) (w : World) (h : RulAt r (Old w) w A c A' c') (hg10 : r.guards.length ≤ 10) (ho30 : r.out.length ≤ 30) (ha10 : ∀ s ∈ r.out, s.args.length ≤ 10) :
    Calls Tryd.prog 51 #[.agg #[.int .u8 r.name, .int .i64 r.arity, .int .u8 r.left, .int .u8 r.right, .slice A r.guards.length c, .int .i64 r.weight, .slice A' r.out.length c']] w (BoolPost (coreR r) w) := by
  have hcase := coreR_cases r
  have hn := h.fn
  have hai := h.fa.i64
  have hbx : Blk (w.alloc (.cells #[.int .u8 r.name, .int .i64 r.arity, .int .u8 r.left, .int .u8 r.right, .slice A r.guards.length c, .int .i64 r.weight, .slice A' r.out.length c'] 60)) w.heap.size 60 #[.int .u8 r.name, .int .i64 r.arity, .int .u8 r.left, .int .u8 r.right, .slice A r.guards.length c, .int .i64 r.weight, .slice A' r.out.length c'] := Blk.new _ _ _
  have hb0 : Below w.heap.size w (w.alloc (.cells #[.int .u8 r.name, .int .i64 r.arity, .int .u8 r.left, .int .u8 r.right, .slice A r.guards.length c, .int .i64 r.weight, .slice A' r.out.length c'] 60)) := (Below.refl _ _).alloc (Nat.le_refl _) _
  have hz0 : (w.alloc (.cells #[.int .u8 r.name, .int .i64 r.arity, .int .u8 r.left, .int .u8 r.right, .slice A r.guards.length c, .int .i64 r.weight, .slice A' r.out.length c'] 60)).heap.size = w.heap.size + 1 := by simp
  have H := Lib.hid h; clear h
  have Ha10 := Lib.hid ha10; clear ha10
  have Hbx := Lib.hid hbx; clear hbx
  have Hb0 := Lib.hid hb0; clear hb0
  have Hz0 := Lib.hid hz0; clear hz0
  rcases hcase with ⟨hno, hc⟩ | ⟨hl, h3, h4, h1, h2, hyes⟩
  · have Hno := Lib.hid hno; clear hno
    go_enter Tryd.func51, Tryd.ntmps51
    rcases hc with hl | ⟨hl, h3⟩ | ⟨hl, h3, h4⟩ | ⟨hl, h3, h4, h1⟩ | ⟨hl, h3, h4, h1, h2⟩
    all_goals
      go_wp2_with (go_at_call 55; refine (letter_calls _ _).mono ?_; rintro e w' ⟨rfl, rfl⟩)
      go_ret
      exact ⟨by rw [Hno.out]; rfl, Hb0.out⟩
  · have hr4 : 0 ≤ r.arity ∧ r.arity ≤ 4 := by omega
    have Hyes := Lib.hid hyes; clear hyes
    go_enter Tryd.func51, Tryd.ntmps51
    go_wp2_with (go_at_call 55; refine (letter_calls _ _).mono ?_; rintro e w' ⟨rfl, rfl⟩)
    obtain ⟨W0, hW0⟩ : ∃ W0, W0 = w.alloc (.cells #[.int .u8 r.name, .int .i64 r.arity, .int .u8 r.left, .int .u8 r.right, .slice A r.guards.length c, .int .i64 r.weight, .slice A' r.out.length c'] 60) := ⟨_, rfl⟩
    rw [← hW0] at Hbx Hb0 Hz0 ⊢
    have HW0 := Lib.hid hW0; clear hW0
    have hz0' : w.heap.size + 1 ≤ W0.heap.size := by have := Hz0.out; omega
    go_loopw [3] (fun i wr => ∃ k : Nat, k ≤ r.guards.length ∧ i = .int .i64 k ∧ Hid (Below (w.heap.size + 1) W0 wr) ∧ w.heap.size + 1 ≤ wr.heap.size ∧ Hid (r.guards.all (fun f => formF f r.arity.toNat) = (r.guards.drop k).all (fun f => formF f r.arity.toNat))) (fun i _ => r.guards.length - (intOf i).toNat)
    case atStart => exact ⟨0, Nat.zero_le _, rfl, Below.refl _ _, hz0', rfl⟩
    case round =>
      obtain ⟨k, hk, rfl, hb, hsz, hall⟩ := hrel
      obtain ⟨wo, rfl⟩ : ∃ wo : World, wo = wr := ⟨_, rfl⟩
      have hblo := Hbx.out.same (hb.out.block _ (Nat.lt_succ_self _))
      have hbwo : Below w.heap.size w wo := Hb0.out.trans (hb.out.mono (Nat.le_succ _))
      have Hbwo := Lib.hid hbwo; clear hbwo
      by_cases hlt : k < r.guards.length
      · obtain ⟨b, o, As, cs, f, hd, rfl, hob, hs0, hs1, hsc, hsa, hsl⟩ := (H.out.sg.below Hbwo.out).getFrm hlt
        obtain ⟨z0, z1, z2, z3, z4, z5, z6⟩ := hblo.rul
        have kx0 := cell_regrown hs0
        have kx1 := cell_regrown hs1
        have kz1 := cell_regrown z1
        have kz4 := cell_regrown z4
        have hk0 : (0 : Int) ≤ (k : Int) := Int.natCast_nonneg _
        have hk1 : (k : Int) < (r.guards.length : Int) := by omega
        have hcall : ∀ (q : Nat) (os : Array Obj), Calls Tryd.prog 66 #[.agg #[.int .i64 f.const, .slice As f.coefs.length cs], .int .i64 r.arity] (grow (redrawn wo q) os) fun e w'' => e = .returned (.bool (formF f r.arity.toNat)) ∧ ∃ p : Regrown, w'' = grow (redrawn wo p.d) p.os := fun q os =>
          have hg := below_regrown wo q os
          Calls.regrown_of (refForm_int As cs f r.arity _ (hsa.out.keep fun k hk => hg.block k (by have : k < w.heap.size := hk; omega)) (fun k hk => by have : k < w.heap.size := hk; have := hg.size; omega) hsc hr4)
        have Hcall := Lib.hid hcall; clear hcall
        have Hblo := Lib.hid hblo; clear hblo
        clear z0 z1 z2 z3 z5 z6 hs0 hs1
        generalize hmn : formF f r.arity.toNat = t at Hcall
        have Hmn := Lib.hid hmn; clear hmn
        go_wp2
        refine wp_region_quiet_below (by kernel_rfl) (by kernel_rfl) ?_
        repeat (quiet_step (exact Hcall.out _ _))
        refine wpQuiet_nil ?_
        intro _ hw'
        obtain ⟨⟨dq, osq⟩, hw''⟩ := hw'
        subst hw''
        have hbr := below_regrown wo dq osq
        have hbw : Below w.heap.size w (grow (redrawn wo dq) osq) := Hbwo.out.trans (hbr.mono (by omega))
        have hb1 : Below (w.heap.size + 1) W0 (grow (redrawn wo dq) osq) := hb.out.trans (hbr.mono hsz)
        have hz1 := hbr.size
        have Hbw := Lib.hid hbw; clear hbw
        have Hb1 := Lib.hid hb1; clear hb1
        clear hbr kx0 kx1 kz1 kz4
        cases t
        · go_wp2
          go_ret
          refine ⟨ret_bool ?_, Hbw.out⟩
          rw [Hyes.out, hall.out, hd.out, List.all_cons, Hmn.out]; rfl
        · go_wp2
          go_roundw
          case rel =>
            refine ⟨k + 1, by omega, by go_num, Hb1, by omega, ?_⟩
            unfold Hid; rw [hall.out, hd.out, List.all_cons, Hmn.out]; rfl
          case measure => simp [intOf]; omega
      · have hgs : coreR r = (r.out.all (fun s => s.args.all (fun f => formF f r.arity.toNat)) && checkF (modsK r r.out.length) == 0) := by
          rw [Hyes.out, hall.out, drop_end hlt]; unfold modsK; rw [List.take_length]; rfl
        obtain ⟨z0, z1, z2, z3, z4, z5, z6⟩ := hblo.rul
        have Hgs := Lib.hid hgs; clear hgs
        have Hblo := Lib.hid hblo; clear hblo
        clear hall z0 z1 z2 z3 z5
        go_wp2
        clear hlt z4 z6
        go_loopw [5, 4] (fun i ws wr => ∃ k : Nat, k ≤ r.out.length ∧ i = .int .i64 k ∧ Hid (Below (w.heap.size + 1) wo wr) ∧ w.heap.size + 1 ≤ wr.heap.size ∧ Hid (r.out.all (fun s => s.args.all (fun f => formF f r.arity.toNat)) = (r.out.drop k).all (fun s => s.args.all (fun f => formF f r.arity.toNat))) ∧
          ∃ Aw cw, ws = .slice Aw k cw ∧ Hid (Own pMod 49 (w.heap.size + 1) (w.heap.size < ·) wr ws (modsK r k))) (fun i _ _ => r.out.length - (intOf i).toNat)
        case atStart => exact ⟨0, Nat.zero_le _, rfl, Below.refl _ _, hsz, rfl, none, 0, rfl, Own.nil⟩
        case round =>
          obtain ⟨k2, hk2, rfl, hb2, hsz2, hall2, Aw, cw, rfl, how⟩ := hrel
          obtain ⟨wp, rfl⟩ : ∃ wp : World, wp = wr := ⟨_, rfl⟩
          have hblp := Hblo.out.same (hb2.out.block _ (Nat.lt_succ_self _))
          have hbwp : Below w.heap.size w wp := Hbwo.out.trans (hb2.out.mono (Nat.le_succ _))
          obtain ⟨z0, z1, z2, z3, z4, z5, z6⟩ := hblp.rul
          clear z0 z2 z3 z4 z5
          have Hbwp := Lib.hid hbwp; clear hbwp
          have Hblp := Lib.hid hblp; clear hblp
          by_cases hlt : k2 < r.out.length
          · obtain ⟨b, o, As, cs, s, hd, rfl, hob, hs0, hs1, hs8, hsa, hsl⟩ := (H.out.so.below Hbwp.out).getShp hlt
            have hob' : b < wp.heap.size := by have : b < w.heap.size := hob; omega
            have hwl : w.heap.size < wp.heap.size := by omega
            have hk0 : (0 : Int) ≤ (k2 : Int) := Int.natCast_nonneg _
            have hk1 : (k2 : Int) < (r.out.length : Int) := by omega
            have hal : s.args.length ≤ 10 := Ha10.out _ (mem_of_drop hd.out)
            obtain ⟨Z, hZ⟩ : ∃ Z, madeCells #[Value.int .i64 0] s.args.length = Z := ⟨_, rfl⟩
            have hmk := fun (wx : World) => run_make_rowN (P := Tryd.prog) (t := 47) (e := 3) Tryd.underlying47 info_intC s.args.length (by omega) (by omega) wx
            rw [show madeCells (Value.int .i64 0).cells (s.args.length * 1) = Z from by rw [Nat.mul_one]; exact hZ] at hmk
            have hmm1 := madeM1 wp s.name s.args.length (by omega) #[.int .u8 s.name, .slice As s.args.length cs] Z hZ
            have hmm2 := madeM2 wp s.name s.args.length (by omega) #[.int .u8 s.name, .slice As s.args.length cs] Z hZ
            have HZ := Lib.hid hZ; clear hZ
            have Hmm1 := Lib.hid hmm1; clear hmm1
            have Hmm2 := Lib.hid hmm2; clear hmm2
            go_wp2_with fail
            go_region_held3 (fun w' => w'.cell? ⟨wp.heap.size, 0, none⟩ = some (.int .u8 s.name) ∧ w'.cell? ⟨wp.heap.size, 1, none⟩ = some (.slice As s.args.length cs))
              (first | go_keep)
              (fail)
            all_goals go_wp2_with fail
            have hmm1 := Hmm1.out
            clear Hmm1 Hmm2
            generalize (((wp.alloc (.cells #[.int .u8 s.name, .slice As s.args.length cs] 72)).alloc (.cells Z 3)).alloc (.cells #[.int .u8 s.name, .slice (some ⟨wp.heap.size + 1, 0, none⟩) s.args.length s.args.length] 49)).drew = W3 at hmm1 ⊢
            generalize wp.heap.size + 1 + 1 = gm at hmm1 ⊢
            generalize wp.heap.size + 1 = gz at hmm1 ⊢
            rotate_left
            have hmm1 := Hmm2.out
            clear Hmm1 Hmm2
            generalize (((wp.alloc (.cells #[.int .u8 s.name, .slice As s.args.length cs] 72)).alloc (.cells #[.int .u8 s.name, .slice (some ⟨wp.heap.size + 1 + 1, 0, none⟩) s.args.length s.args.length] 49)).alloc (.cells Z 3)).drew = W3 at hmm1 ⊢
            generalize wp.heap.size + 1 + 1 = gz at hmm1 ⊢
            generalize wp.heap.size + 1 = gm at hmm1 ⊢
            all_goals
              obtain ⟨mbel, msz, mbs, mbm, mzs, mg1, mg2, mg3, mg4⟩ := hmm1
              have hcf := refFine_calls (some ⟨gz, 0, none⟩) s.args.length ⟨s.name, List.replicate s.args.length 0⟩ W3 mzs (fun k hk => by subst hk; exact mg2)
              simp only [List.length_replicate] at hcf
              have Hcf := Lib.hid hcf; clear hcf
              have Mbel := Lib.hid mbel; clear mbel
              have Mbs := Lib.hid mbs; clear mbs
              have Mbm := Lib.hid mbm; clear mbm
              have Mzs := Lib.hid mzs; clear mzs
              clear hmk hs0 hs1 z1 z6
              refine Hcf.out.mono ?_
              rintro e w5 ⟨rfl, hb5⟩
              have hz5 := hb5.size
              have hbp5 : Below wp.heap.size wp w5 := Mbel.out.trans (hb5.mono (by omega))
              have hbs5 := Mbs.out.same (hb5.block _ (by omega))
              have hbm5 := Mbm.out.same (hb5.block _ mg4)
              have hzs5 := Mzs.out.keep (w' := w5) fun q hq => hb5.block q (by subst hq; exact mg2)
              have Hbp5 := Lib.hid hbp5; clear hbp5
              have Hbs5 := Lib.hid hbs5; clear hbs5
              have Hbm5 := Lib.hid hbm5; clear hbm5
              have Hzs5 := Lib.hid hzs5; clear hzs5
              clear hb5
              cases hfm : fineF ⟨s.name, List.replicate s.args.length 0⟩
              · have hno : coreR r = false := by
                  rw [Hgs.out, checkF_bad (m := ⟨s.name, List.replicate s.args.length 0⟩) _ hfm (by unfold modsK; simp; omega)]
                  · simp
                  · unfold modsK; rw [List.take_length]; exact List.mem_map.2 ⟨s, mem_of_drop hd.out, rfl⟩
                have Hno := Lib.hid hno; clear hno
                go_wp2
                go_ret
                exact ⟨by rw [Hno.out]; rfl, Hbwp.out.trans (Hbp5.out.mono (by omega))⟩
              · clear hfm
                go_wp2
                go_loopw [8] (fun i wr => ∃ k3 : Nat, k3 ≤ s.args.length ∧ i = .int .i64 k3 ∧ Hid (Below w5.heap.size w5 wr) ∧ w5.heap.size ≤ wr.heap.size ∧ Hid (s.args.all (fun f => formF f r.arity.toNat) = (s.args.drop k3).all (fun f => formF f r.arity.toNat))) (fun i _ => s.args.length - (intOf i).toNat)
                case atStart => exact ⟨0, Nat.zero_le _, rfl, Below.refl _ _, Nat.le_refl _, rfl⟩
                case round =>
                  obtain ⟨k3, hk3, rfl, hb3, hsz3, hall3⟩ := hrel
                  obtain ⟨wq, rfl⟩ : ∃ wq : World, wq = wr := ⟨_, rfl⟩
                  have hbpq : Below wp.heap.size wp wq := Hbp5.out.trans (hb3.out.mono (by omega))
                  have hbsq := Hbs5.out.same (hb3.out.block _ (by omega))
                  have hblq := Hblp.out.same (hbpq.block _ hwl)
                  have y0 := hbsq.cell 0
                  have y1 := hbsq.cell 1
                  obtain ⟨x0, x1, x2, x3, x4, x5, x6⟩ := hblq.rul
                  clear x0 x2 x3 x4 x5
                  have Hbpq := Lib.hid hbpq; clear hbpq
                  have Hbsq := Lib.hid hbsq; clear hbsq
                  have Hblq := Lib.hid hblq; clear hblq
                  by_cases hlt3 : k3 < s.args.length
                  · obtain ⟨b4, o4, A4, c4, f, hd4, rfl, hob4, hf0, hf1, hfc, hfa, hfl⟩ := (hsa.out.keep fun q hq => Hbpq.out.block q (by have : q < w.heap.size := hq; omega)).getFrm hlt3
                    have ky1 := cell_regrown y1
                    have kx1 := cell_regrown x1
                    have kf0 := cell_regrown hf0
                    have kf1 := cell_regrown hf1
                    have hk30 : (0 : Int) ≤ (k3 : Int) := Int.natCast_nonneg _
                    have hk31 : (k3 : Int) < (s.args.length : Int) := by omega
                    have hcall : ∀ (q : Nat) (os : Array Obj), Calls Tryd.prog 66 #[.agg #[.int .i64 f.const, .slice A4 f.coefs.length c4], .int .i64 r.arity] (grow (redrawn wq q) os) fun e w'' => e = .returned (.bool (formF f r.arity.toNat)) ∧ ∃ p : Regrown, w'' = grow (redrawn wq p.d) p.os := fun q os =>
                      have hg := below_regrown wq q os
                      Calls.regrown_of (refForm_int A4 c4 f r.arity _ (hfa.out.keep fun k hk => hg.block k (by have : k < w.heap.size := hk; omega)) (fun k hk => by have : k < w.heap.size := hk; have := hg.size; omega) hfc hr4)
                    have Hcall := Lib.hid hcall; clear hcall
                    clear y0 x1 x6 hf0 hf1
                    generalize hmn : formF f r.arity.toNat = t at Hcall
                    have Hmn := Lib.hid hmn; clear hmn
                    go_wp2
                    refine wp_region_quiet_below (by kernel_rfl) (by kernel_rfl) ?_
                    repeat (quiet_step (exact Hcall.out _ _))
                    refine wpQuiet_nil ?_
                    intro _ hw'
                    obtain ⟨⟨dq, osq⟩, hw''⟩ := hw'
                    subst hw''
                    have hbr := below_regrown wq dq osq
                    have hzr := hbr.size
                    have hbp6 : Below wp.heap.size wp (grow (redrawn wq dq) osq) := Hbpq.out.trans (hbr.mono (by omega))
                    have Hbr := Lib.hid hbr; clear hbr
                    have Hbp6 := Lib.hid hbp6; clear hbp6
                    clear ky1 kx1 kf0 kf1
                    cases t
                    · have hno : coreR r = false := by
                        rw [Hgs.out, hall2.out, hd.out, List.all_cons, hall3.out, hd4.out, List.all_cons, Hmn.out]; rfl
                      have Hno := Lib.hid hno; clear hno
                      go_wp2
                      go_ret
                      exact ⟨by rw [Hno.out]; rfl, Hbwp.out.trans (Hbp6.out.mono (by omega))⟩
                    · go_wp2
                      go_roundw
                      case rel =>
                        refine ⟨k3 + 1, by omega, by go_num, hb3.out.trans (Hbr.out.mono hsz3), by omega, ?_⟩
                        unfold Hid; rw [hall3.out, hd4.out, List.all_cons, Hmn.out]; rfl
                      case measure => simp [intOf]; omega
                  · have hbmq := Hbm5.out.same (hb3.out.block _ (by omega))
                    have v0 := hbmq.cell 0
                    have v1 := hbmq.cell 1
                    have hzsq := Hzs5.out.keep (w' := wq) fun q hq => hb3.out.block q (by subst hq; omega)
                    have howq : Own pMod 49 (w.heap.size + 1) (w.heap.size < ·) wq (.slice Aw k2 cw) (modsK r k2) := how.out.later Hbpq.out
                    have hR : pMod.R (fun q => q = gz) wq [.int .u8 s.name, .slice (some ⟨gz, 0, none⟩) s.args.length s.args.length] ⟨s.name, List.replicate s.args.length 0⟩ :=
                      ⟨some ⟨gz, 0, none⟩, s.args.length, by simp, hs8, hzsq⟩
                    have hF : ∀ q, (q = gz) → w.heap.size < q ∧ q < wq.heap.size ∧ some q ≠ (Value.slice Aw k2 cw).ownBlock := fun q hq => by
                      subst hq
                      refine ⟨by omega, by omega, fun he => ?_⟩
                      have := how.out.lt _ he.symm
                      omega
                    have hlk : (modsK r k2).length + 1 = k2 + 1 := by unfold modsK; simp; omega
                    have hrk : Room (k2 + 1) := room_of (by omega)
                    have hbq : w.heap.size + 1 ≤ wq.heap.size := by omega
                    have Howq := Lib.hid howq; clear howq
                    have HR := Lib.hid hR; clear hR
                    have HF := Lib.hid hF; clear hF
                    have Hlk := Lib.hid hlk; clear hlk
                    have Hrk := Lib.hid hrk; clear hrk
                    clear y0
                    go_wp2_with ((with_reducible show wpList _ _ _ (Oper.mk (some 89) _ _ _ _ _ :: _) _ _); refine pushMod (xs := modsK r k2) (base := w.heap.size + 1) (G := (w.heap.size < ·)) 89 (.tmp 87) (.tmp 88) rfl rfl rfl rfl rfl (fun _ => rfl) (fun _ => rfl) Howq.out s.name (some ⟨gz, 0, none⟩) s.args.length s.args.length rfl ⟨s.name, List.replicate s.args.length 0⟩ (fun q => q = gz) HR.out HF.out (k2 + 1) Hlk.out Hrk.out hbq ?_; intro A6 c6 w6 hown6 hg6)
                    go_roundw
                    case rel =>
                      have hz6 := hg6.out.bel.size
                      refine ⟨k2 + 1, by omega, by go_num, (hb2.out.trans (Hbpq.out.mono hsz2)).trans hg6.out.bel, by omega, ?_, A6, c6, rfl, ?_⟩
                      · unfold Hid; rw [hall2.out, hd.out, List.all_cons, hall3.out, drop_end hlt3]; rfl
                      · have h2 : modsK r (k2 + 1) = modsK r k2 ++ [⟨s.name, List.replicate s.args.length 0⟩] := by unfold modsK; rw [take_of_drop hd.out, List.map_append]; rfl
                        unfold Hid; rw [h2]; exact hown6.out
                    case measure => simp [intOf]; omega
          · obtain rfl : k2 = r.out.length := by omega
            have ha : coreR r = (checkF (modsK r r.out.length) == 0) := by rw [Hgs.out, hall2.out, drop_end hlt]; rfl
            obtain ⟨hlw, hsw⟩ := how.out.sl'
            have hck : Calls Tryd.prog 38 #[.slice Aw r.out.length cw] wp (CheckPost (modsK r r.out.length) wp) := by
              have := refCheck_calls Aw cw (modsK r r.out.length) wp (hsw.wide fun q hq => hq.2)
              rwa [hlw] at this
            have Ha := Lib.hid ha; clear ha
            have Hck := Lib.hid hck; clear hck
            clear hlw hsw
            go_wp2_with fail
            refine Hck.out.mono ?_
            rintro e w5 ⟨rfl, hb5⟩
            have hbw5 : Below w.heap.size w w5 := Hbwp.out.trans (hb5.mono (by omega))
            have Hbw5 := Lib.hid hbw5; clear hbw5
            clear hb5
            go_wp2
            go_ret
            exact ⟨by rw [Ha.out]; rfl, Hbw5.out⟩
end Go.Proofs.YtlipmagkplbkdaaDoor

/-! Fe -/
namespace Go.Proofs.YtlipmagkplbkdaaDoor
open Go.RowKit Go.Sort
structure Small (rs : List Rul) : Prop where
  l : rs.length ≤ 50
  g : ∀ r ∈ rs, r.guards.length ≤ 10
  o : ∀ r ∈ rs, r.out.length ≤ 30
  a : ∀ r ∈ rs, ∀ s ∈ r.out, s.args.length ≤ 10
theorem RulAt.to {r : Rul} {w wo W : World} {A : Option Addr} {c : Nat} {A' : Option Addr} {c' : Nat} (h : RulAt r (Old w) wo A c A' c') (hs : w.heap.size ≤ wo.heap.size) (hb : Below wo.heap.size wo W) : RulAt r (Old W) W A c A' c' :=
  have hk : ∀ q, Old w q → W.heap[q]? = wo.heap[q]? := fun q hq => hb.block q (Nat.lt_of_lt_of_le hq hs)
  have hw : ∀ q, Old w q → Old W q := fun _ hq => Nat.lt_of_lt_of_le hq (Nat.le_trans hs hb.size)
  ⟨h.fn, h.fa, h.fl, h.fr, h.fw, (h.sg.keep hk).wide hw, (h.so.keep hk).wide hw⟩
theorem SlAt.getRulAt {F : Nat → Prop} {w : World} {A : Option Addr} {cap : Nat} {xs : List Rul} (h : SlAt pRul F w A cap xs) {i : Nat} (hi : i < xs.length) :
    ∃ b o A' c' A'' c'' m, Hid (xs.drop i = m :: xs.drop (i + 1)) ∧ A = some ⟨b, o, none⟩ ∧ F b ∧
      w.cell? ⟨b, o + i * 7, none⟩ = some (.int .u8 m.name) ∧ w.cell? ⟨b, o + i * 7 + 1, none⟩ = some (.int .i64 m.arity) ∧ w.cell? ⟨b, o + i * 7 + 2, none⟩ = some (.int .u8 m.left) ∧ w.cell? ⟨b, o + i * 7 + 3, none⟩ = some (.int .u8 m.right) ∧
      w.cell? ⟨b, o + i * 7 + 4, none⟩ = some (.slice A' m.guards.length c') ∧ w.cell? ⟨b, o + i * 7 + 5, none⟩ = some (.int .i64 m.weight) ∧ w.cell? ⟨b, o + i * 7 + 6, none⟩ = some (.slice A'' m.out.length c'') ∧
      Hid (RulAt m F w A' c' A'' c'') ∧ m.guards.length ≤ 9223372036854775807 ∧ m.out.length ≤ 9223372036854775807 := by
  obtain ⟨b, o, A', c', A'', c'', m, h0, h1, h2, k0, k1, k2, k3, k4, k5, k6, ⟨f1, f2, f3, f4, f5⟩, hg, ho, l1, l2⟩ := h.getRul hi
  exact ⟨b, o, A', c', A'', c'', m, h0, h1, h2, k0, k1, k2, k3, k4, k5, k6, ⟨f1, f2, f3, f4, f5, hg.out, ho.out⟩, l1, l2⟩
def manyB (r : Rul) : Bool := decide (4 < r.guards.length) || decide (20 < r.out.length)
theorem manyR_of {rs : List Rul} (h : ¬ 40 < rs.length) : manyR rs = rs.any manyB := by
  unfold manyR manyB; rw [show decide (40 < rs.length) = false from by simpa using h]; rfl
theorem manyB_no {r : Rul} (h1 : ¬ 4 < r.guards.length) (h2 : ¬ 20 < r.out.length) : manyB r = false := by unfold manyB; simp; omega
theorem manyB_yes {r : Rul} (h : 4 < r.guards.length ∨ 20 < r.out.length) : manyB r = true := by unfold manyB; simp; omega
set_option maxRecDepth 100000 in
set_option maxHeartbeats 1000000 in
theorem many_calls {F : Nat → Prop} (A : Option Addr) (c : Nat) (rs : List Rul) (w : World) (h : SlAt pRul F w A c rs) :
    Calls Tryd.prog 50 #[.slice A rs.length c] w fun e w' => e = .returned (.bool (manyR rs)) ∧ w = w' := by
  have hmx := h.lenle
  have H := Lib.hid h; clear h
  by_cases hbig : 40 < rs.length
  · go_enter Tryd.func50, Tryd.ntmps50
    go_wp2
    go_ret
    exact ⟨ret_bool (by unfold manyR; simp [hbig]), rfl⟩
  · have hm := manyR_of hbig
    have Hm := Lib.hid hm; clear hm
    go_enter Tryd.func50, Tryd.ntmps50
    go_wp2
    go_loop [3] (fun i => ∃ k : Nat, k ≤ rs.length ∧ i = .int .i64 k ∧ Hid (rs.any manyB = (rs.drop k).any manyB)) (fun i => rs.length - (intOf i).toNat)
    case atStart => exact ⟨0, Nat.zero_le _, rfl, rfl⟩
    case round =>
      obtain ⟨k, hk, rfl, hall⟩ := hrel
      by_cases hlt : k < rs.length
      · obtain ⟨b, o, A1, c1, A2, c2, r, hd, rfl, hob, k0, k1, k2, k3, k4, k5, k6, _, hl1, hl2⟩ := H.out.getRulAt hlt
        clear k0 k1 k2 k3 k5
        by_cases hg : 4 < r.guards.length
        · go_wp2
          go_ret
          exact ⟨ret_bool (by rw [Hm.out, hall.out, hd.out, List.any_cons, manyB_yes (.inl hg)]; rfl), rfl⟩
        · by_cases ho : 20 < r.out.length
          · go_wp2
            go_ret
            exact ⟨ret_bool (by rw [Hm.out, hall.out, hd.out, List.any_cons, manyB_yes (.inr ho)]; rfl), rfl⟩
          · go_wp2
            go_round
            case rel =>
              refine ⟨k + 1, by omega, by go_num, ?_⟩
              unfold Hid; rw [hall.out, hd.out, List.any_cons, manyB_no (by omega) (by omega)]; rfl
            case measure => simp [intOf]; omega
      · go_wp2
        go_ret
        exact ⟨ret_bool (by rw [Hm.out, hall.out, drop_end hlt]; rfl), rfl⟩
theorem checkR_many {rs : List Rul} (h : manyR rs = true) : checkR rs = 4 := by unfold checkR; rw [if_pos h]
theorem checkR_all {rs : List Rul} (h : manyR rs = false) : checkR rs = if rs.all fineR = true then 0 else 8 := by unfold checkR; rw [if_neg (by rw [h]; decide)]
set_option maxRecDepth 100000 in
set_option maxHeartbeats 2000000 in
theorem rCheck_calls (A : Option Addr) (c : Nat) (rs : List Rul) (w : World) (h : SlAt pRul (Old w) w A c rs) (hs : Small rs) :
    Calls Tryd.prog 49 #[.slice A rs.length c] w (IntPost (checkR rs) w) := by
  have hmx := h.lenle
  have H := Lib.hid h; clear h
  have Hs := Lib.hid hs; clear hs
  by_cases hbig : 40 < rs.length
  · go_enter Tryd.func49, Tryd.ntmps49
    go_wp2
    go_ret
    exact ⟨ret_int (by rw [checkR_many (by unfold manyR; simp [hbig])]), Below.refl _ _⟩
  · have hm := manyR_of hbig
    have Hm := Lib.hid hm; clear hm
    go_enter Tryd.func49, Tryd.ntmps49
    go_wp2
    go_loopw [12] (fun i wr => ∃ k : Nat, k ≤ rs.length ∧ i = .int .i64 k ∧ Hid (Below w.heap.size w wr) ∧ w.heap.size ≤ wr.heap.size ∧ Hid (rs.any manyB = (rs.drop k).any manyB)) (fun i _ => rs.length - (intOf i).toNat)
    case atStart => exact ⟨0, Nat.zero_le _, rfl, Below.refl _ _, Nat.le_refl _, rfl⟩
    case round =>
      obtain ⟨k, hk, rfl, hb, hsz, hall⟩ := hrel
      obtain ⟨wo, rfl⟩ : ∃ wo : World, wo = wr := ⟨_, rfl⟩
      by_cases hlt : k < rs.length
      · obtain ⟨b, o, A1, c1, A2, c2, r, hd, rfl, hob, k0, k1, k2, k3, k4, k5, k6, _, hl1, hl2⟩ := (H.out.below hb.out).getRulAt hlt
        have hob' : b < wo.heap.size := Nat.lt_of_lt_of_le hob hsz
        by_cases hg : 4 < r.guards.length
        · go_wp2
          go_ret
          exact ⟨ret_int (by rw [checkR_many (by rw [Hm.out, hall.out, hd.out, List.any_cons, manyB_yes (.inl hg)]; rfl)]), hb.out.alloc hsz _⟩
        · by_cases ho : 20 < r.out.length
          · go_wp2
            go_ret
            exact ⟨ret_int (by rw [checkR_many (by rw [Hm.out, hall.out, hd.out, List.any_cons, manyB_yes (.inr ho)]; rfl)]), hb.out.alloc hsz _⟩
          · go_wp2
            go_roundw
            case rel =>
              refine ⟨k + 1, by omega, by go_num, hb.out.alloc hsz _, by simp; omega, ?_⟩
              unfold Hid; rw [hall.out, hd.out, List.any_cons, manyB_no (by omega) (by omega)]; rfl
            case measure => simp [intOf]; omega
      · have hck := checkR_all (rs := rs) (by rw [Hm.out, hall.out, drop_end hlt]; rfl)
        have Hck := Lib.hid hck; clear hck
        clear hall
        go_wp2
        clear hlt
        go_loopw [29] (fun i wr => ∃ k : Nat, k ≤ rs.length ∧ i = .int .i64 k ∧ Hid (Below w.heap.size w wr) ∧ w.heap.size ≤ wr.heap.size ∧ Hid (rs.all fineR = (rs.drop k).all fineR)) (fun i _ => rs.length - (intOf i).toNat)
        case atStart => exact ⟨0, Nat.zero_le _, rfl, hb, hsz, rfl⟩
        case round =>
          obtain ⟨j, hj, rfl, hb2, hsz2, hall⟩ := hrel
          obtain ⟨wp, rfl⟩ : ∃ wp : World, wp = wr := ⟨_, rfl⟩
          by_cases hlt : j < rs.length
          · obtain ⟨b, o, A1, c1, A2, c2, r, hd, rfl, hob, k0, k1, k2, k3, k4, k5, k6, hat, hl1, hl2⟩ := (H.out.below hb2.out).getRulAt hlt
            have hob' : b < wp.heap.size := Nat.lt_of_lt_of_le hob hsz2
            have hmem := mem_of_drop hd.out
            have hcall : ∀ W : World, Below wp.heap.size wp W → Calls Tryd.prog 65 #[.agg #[.int .u8 r.name, .int .i64 r.arity, .int .u8 r.left, .int .u8 r.right, .slice A1 r.guards.length c1, .int .i64 r.weight, .slice A2 r.out.length c2]] W (BoolPost (fineR r) W) := fun W hW =>
              rFine_calls r A1 c1 A2 c2 W (hat.out.to hsz2 hW) (Hs.out.g r hmem) (Hs.out.o r hmem) (Hs.out.a r hmem)
            have Hcall := Lib.hid hcall; clear hcall
            have Hmem := Lib.hid hmem; clear hmem
            go_wp2_with fail
            refine (Hcall.out _ ((Below.refl _ _).alloc (Nat.le_refl _) _)).mono ?_
            rintro e w1 ⟨rfl, hb1⟩
            have hbw : Below w.heap.size w w1 := (hb2.out.alloc hsz2 _).trans (hb1.mono (by simp; omega))
            have Hbw := Lib.hid hbw; clear hbw
            clear hb1 k0 k1 k2 k3 k4 k5 k6
            cases hfm : fineR r
            · go_wp2
              go_ret
              exact ⟨ret_int (by rw [Hck.out, if_neg (by rw [hall.out, hd.out, List.all_cons, hfm]; simp)]), Hbw.out⟩
            · go_wp2
              go_roundw
              case rel =>
                refine ⟨j + 1, by omega, by go_num, Hbw, Hbw.out.size, ?_⟩
                unfold Hid; rw [hall.out, hd.out, List.all_cons, hfm]; rfl
              case measure => simp [intOf]; omega
          · go_wp2
            go_ret
            exact ⟨ret_int (by rw [Hck.out, if_pos (by rw [hall.out, drop_end hlt]; rfl)]), hb2.out⟩
end Go.Proofs.YtlipmagkplbkdaaDoor

/-! Hi -/
namespace Go.Proofs.YtlipmagkplbkdaaDoor
open Go.RowKit Go.Sort
set_option linter.unusedVariables false
section
variable {α : Type} {E : Rp α} {w : World} {e : TypeId} {base : Nat} {G : Nat → Prop}
theorem CellsAre.setZ {F : Nat → Prop} {x x' : α} {j : Nat} {u : Value} (hj : j < E.n) (hR : ∀ cs, E.R F w cs x → E.R F w (cs.set j u) x') : ∀ {xs : List α} {cells : List Value} {i : Nat}, CellsAre E F w cells xs → xs[i]? = some x → CellsAre E F w (cells.set (i * E.n + j) u) (xs.set i x')
  | [], _, i, _, h => by simp at h
  | y :: ys, cells, 0, ⟨cs, rest, h1, h2, h3⟩, h => by
    simp only [List.getElem?_cons_zero, Option.some.injEq] at h
    subst h
    rw [Nat.zero_mul, Nat.zero_add, List.set_cons_zero]
    refine ⟨cs.set j u, rest, ?_, hR cs h2, h3⟩
    rw [h1, List.set_append_left _ _ (by rw [E.len h2]; exact hj)]
  | y :: ys, cells, i + 1, ⟨cs, rest, h1, h2, h3⟩, h => by
    simp only [List.getElem?_cons_succ] at h
    rw [List.set_cons_succ]
    refine ⟨cs, rest.set (i * E.n + j) u, ?_, h2, CellsAre.setZ hj hR h3 h⟩
    rw [h1, List.set_append_right _ _ (by rw [E.len h2, Nat.add_mul]; omega), E.len h2]
    congr 2
    rw [Nat.add_mul]; omega
theorem Own.setZ {g : Nat} {n c : Nat} {xs : List α} (h : Own E e base G w (.slice (some ⟨g, 0, none⟩) n c) xs) {i j : Nat} {x x' : α} {u : Value} (hx : xs[i]? = some x) (hj : j < E.n) (hR : ∀ F w cs, E.R F w cs x → E.R F w (cs.set j u) x') :
    Own E e base G (w.setCell ⟨g, i * E.n + j, none⟩ u) (.slice (some ⟨g, 0, none⟩) n c) (xs.set i x') := by
  obtain ⟨cells, ⟨h1, h2⟩, h3⟩ := h
  have h3' := h3
  rcases h2 with ⟨hv', h0⟩ | ⟨g', cap, cur, hv', hb, hg, hnc, hcm, hsz, htake⟩
  · cases hv'
  · injection hv' with e1 e2 e3
    injection e1 with e1
    injection e1 with e1 _ _
    subst e1 e2 e3
    refine ⟨cells.set (i * E.n + j) u, ⟨by rw [List.length_set, List.length_set]; exact h1, .inr ⟨g, c, cur.setIfInBounds (i * E.n + j) u, by rw [List.length_set], hb, Blk.set (t := e) (cs := cur) hg (i * E.n + j) _, by simpa using hnc, hcm, by simpa using hsz, ?_⟩⟩, ?_⟩
    · rw [Array.toList_setIfInBounds, ← htake, List.take_set]
      simp
    · refine (CellsAre.keep (fun k hk => Below.heap_setCell _ _ _ _ fun he => ?_) (CellsAre.setZ hj (fun cs => hR _ _ cs) h3' hx)).wide fun k hk => ⟨hk.1, by simpa [World.setCell] using hk.2.1, hk.2.2⟩
      subst he
      exact hk.2.2 rfl
theorem Own.atZ {A : Option Addr} {n c : Nat} {xs : List α} (h : Own E e base G w (.slice A n c) xs) {i : Nat} {x : α} (hx : xs[i]? = some x) (hn : 0 < E.n) :
    ∃ g cs F, A = some ⟨g, 0, none⟩ ∧ base ≤ g ∧ g < w.heap.size ∧ E.R F w cs x ∧ (∀ j u, cs[j]? = some u → w.cell? ⟨g, i * E.n + j, none⟩ = some u) ∧ (∀ k, w.frozen? ⟨g, k, none⟩ = false) ∧ n ≤ c := by
  obtain ⟨cells, ⟨h1, h2⟩, h3⟩ := h
  rcases h2 with ⟨hv, h0⟩ | ⟨g, cap, cur, hv, hb, hg, hnc, hcm, hsz, htake⟩
  · rw [List.eq_nil_of_length_eq_zero h0] at hx; simp at hx
  · cases hv
    obtain ⟨cs, h4, h5⟩ := h3.get hx
    refine ⟨g, cs, _, rfl, hb, (Array.getElem?_eq_some_iff.1 hg).1, h4, fun j u hu => ?_, fun k => Blk.free (t := e) (cs := cur) hg k, hnc⟩
    have h6 := h5 j u hu
    rw [← htake, List.getElem?_take] at h6
    split at h6
    · rw [Blk.cell (t := e) (cs := cur) hg]; simpa using h6
    · cases h6
end
def zeroW (r : Rul) : Rul := { r with weight := 0 }
theorem pRul_set5 {r : Rul} : ∀ F w cs, pRul.R F w cs r → pRul.R F w (cs.set 5 (.int .i64 0)) (zeroW r) := by
  rintro F w cs ⟨A, c, A', c', rfl, ⟨f1, f2, f3, f4, f5⟩, h1, h2⟩
  exact ⟨A, c, A', c', rfl, ⟨f1, f2, f3, f4, fits_i64 (n := 0) (by decide)⟩, h1, h2⟩
def halfZ (rs : List Rul) (k : Nat) : List Rul := (rs.take k).map zeroW ++ rs.drop k
theorem halfZ_get {rs : List Rul} {k : Nat} {r : Rul} (h : rs[k]? = some r) : (halfZ rs k)[k]? = some r := by
  have hk : k < rs.length := (List.getElem?_eq_some_iff.1 h).1
  unfold halfZ
  rw [List.getElem?_append_right (by rw [List.length_map, List.length_take]; omega), List.length_map, List.length_take, Nat.min_eq_left (Nat.le_of_lt hk), Nat.sub_self, List.getElem?_drop, Nat.add_zero, h]
theorem halfZ_next {rs : List Rul} {k : Nat} {r : Rul} (h : rs[k]? = some r) : (halfZ rs k).set k (zeroW r) = halfZ rs (k + 1) := by
  have hk : k < rs.length := (List.getElem?_eq_some_iff.1 h).1
  have hd := drop_cons h
  have hl : ((rs.take k).map zeroW).length = k := by rw [List.length_map, List.length_take]; omega
  unfold halfZ
  rw [List.set_append_right _ _ (by omega), hl, Nat.sub_self, hd, List.set_cons_zero, take_of_drop hd, List.map_append, List.append_assoc]
  rfl
theorem halfZ_all (rs : List Rul) : halfZ rs rs.length = rs.map zeroW := by unfold halfZ; simp
def okW (r : Rul) : Bool := decide (1 ≤ r.weight) && decide (r.weight ≤ 1000000)
def checkC (rs : List Rul) : Int := if manyR rs = true then 4 else if rs.all (fun r => coreR r && (r.left == 0) && (r.right == 0) && okW r) = true then 0 else 8
theorem manyR_zero (rs : List Rul) : manyR (rs.map zeroW) = manyR rs := by
  unfold manyR
  rw [List.length_map, List.any_map]
  rfl
theorem fineR_zero (r : Rul) : fineR (zeroW r) = (coreR r && (r.left == 0) && (r.right == 0)) := by
  unfold fineR bareR
  show (coreR r && (r.left == 0 && r.right == 0 && (0 : Int) == 0)) = _
  simp [Bool.and_assoc]
theorem checkR_zero (rs : List Rul) : checkR (rs.map zeroW) = if manyR rs = true then 4 else if rs.all (fun r => coreR r && (r.left == 0) && (r.right == 0)) = true then 0 else 8 := by
  unfold checkR
  rw [manyR_zero, List.all_map]
  congr 2
  rw [show (fineR ∘ zeroW) = fun r => coreR r && (r.left == 0) && (r.right == 0) from funext fineR_zero]
theorem checkC_eq (rs : List Rul) : checkC rs = if checkR (rs.map zeroW) = 0 then (if rs.all okW = true then 0 else 8) else checkR (rs.map zeroW) := by
  rw [checkR_zero]
  unfold checkC
  have hall : rs.all (fun r => coreR r && (r.left == 0) && (r.right == 0) && okW r) = (rs.all (fun r => coreR r && (r.left == 0) && (r.right == 0)) && rs.all okW) := by
    induction rs with
    | nil => rfl
    | cons a t ih => simp only [List.all_cons, ih]; cases coreR a <;> cases (a.left == 0) <;> cases (a.right == 0) <;> cases okW a <;> simp
  rw [hall]
  cases manyR rs
  · cases rs.all (fun r => coreR r && (r.left == 0) && (r.right == 0))
    · simp
    · cases rs.all okW <;> simp
  · simp
set_option maxRecDepth 100000 in
set_option maxHeartbeats 8000000 in
theorem checkC_calls (A : Option Addr) (c : Nat) (rs : List Rul) (w : World) (h : SlAt pRul (Old w) w A c rs) (hs : Small rs) :
    Calls Tryd.prog 21 #[.slice A rs.length c] w (IntPost (checkC rs) w) := by
  have hmx := h.lenle
  have hl50 := hs.l
  have hem : Own pRul 60 w.heap.size (Old w) w (.slice none 0 0) ([] : List Rul) := Own.nil
  have hF1 : ∀ q, Old w q → Old w q ∧ q < w.heap.size ∧ some q ≠ (Value.slice none 0 0).ownBlock := fun q hq => ⟨hq, hq, fun he => by cases he⟩
  have hn1 : (([] : List Rul) ++ rs).length = rs.length := rfl
  have hr1 : Room rs.length := room_of (by omega)
  have hba : w.heap.size ≤ w.heap.size := Nat.le_refl _
  have H := Lib.hid h; clear h
  have Hs := Lib.hid hs; clear hs
  have Hem := Lib.hid hem; clear hem
  have HF1 := Lib.hid hF1; clear hF1
  have Hn1 := Lib.hid hn1; clear hn1
  have Hr1 := Lib.hid hr1; clear hr1
  have Hba := Lib.hid hba; clear hba
  go_enter Tryd.func21, Tryd.ntmps21
  go_wp2_with (at_builtin; (refine wpList_catG (E := pRul) (xs := []) (v := .slice none 0 0) (base := w.heap.size) (G := Old w) 22 60 (.agg #[.int .u8 0, .int .i64 0, .int .u8 0, .int .u8 0, .slice none 0 0, .int .i64 0, .slice none 0 0]) 80 _ (.tmp 8) rfl rfl Tryd.underlying22 (by kernel_rfl) rfl (by decide) rfl Hem.out A c rs rfl (Old w) H.out HF1.out rs.length Hn1.out Hr1.out (by decide) Hba.out ?_); intro A2 c2 w2 hown2 hg2)
  rw [List.nil_append] at hown2
  have hb2 : Below w.heap.size w w2 := hg2.out.bel
  have z2 : w.heap.size ≤ w2.heap.size := hb2.size
  have hst : Own pRul 60 w.heap.size (Old w) w2 (.slice A2 rs.length c2) (halfZ rs 0) := hown2.out
  have Hst := Lib.hid hst; clear hst
  have Hb2 := Lib.hid hb2; clear hb2
  clear hg2 hown2 Hem HF1
  go_loopw [12, 4] (fun i v wr => ∃ k : Nat, k ≤ rs.length ∧ i = .int .i64 k ∧ ∃ b : Bool, v = .bool b ∧ Hid (b = (rs.take k).all okW) ∧ w.heap.size ≤ wr.heap.size ∧ Hid (Below w.heap.size w wr) ∧ Hid (Own pRul 60 w.heap.size (Old w) wr (.slice A2 rs.length c2) (halfZ rs k))) (fun i _ _ => rs.length - (intOf i).toNat)
  case atStart => exact ⟨0, Nat.zero_le _, rfl, true, rfl, rfl, z2, Hb2, Hst⟩
  case round =>
    obtain ⟨k, hk, rfl, b, rfl, hbk, hsz, hb, hown⟩ := hrel
    obtain ⟨wo, rfl⟩ : ∃ wo : World, wo = wr := ⟨_, rfl⟩
    by_cases hlt : k < rs.length
    case pos =>
      have hxk : rs[k]? = some rs[k] := List.getElem?_eq_getElem hlt
      obtain ⟨r, hr⟩ : ∃ r, rs[k] = r := ⟨_, rfl⟩
      rw [hr] at hxk
      have htk : (rs.take (k + 1)).all okW = ((rs.take k).all okW && okW r) := by
        rw [take_of_drop (drop_cons hxk), List.all_append]; simp
      obtain ⟨g, cs, F, rfl, hg1, hg2, hRr, hcell, hfz, hnc⟩ := hown.out.atZ (halfZ_get hxk) (by decide)
      have hRr' := hRr
      obtain ⟨Ag, cg, Ao, co, hcs, ⟨_, _, _, _, hf5⟩, hgl, hol⟩ := hRr'
      have k0 : wo.cell? ⟨g, k * 7, none⟩ = some (.int .u8 r.name) := hcell 0 _ (by rw [hcs]; rfl)
      have k1 : wo.cell? ⟨g, k * 7 + 1, none⟩ = some (.int .i64 r.arity) := hcell 1 _ (by rw [hcs]; rfl)
      have k2 : wo.cell? ⟨g, k * 7 + 2, none⟩ = some (.int .u8 r.left) := hcell 2 _ (by rw [hcs]; rfl)
      have k3 : wo.cell? ⟨g, k * 7 + 3, none⟩ = some (.int .u8 r.right) := hcell 3 _ (by rw [hcs]; rfl)
      have k4 : wo.cell? ⟨g, k * 7 + 4, none⟩ = some (.slice Ag r.guards.length cg) := hcell 4 _ (by rw [hcs]; rfl)
      have k5 : wo.cell? ⟨g, k * 7 + 5, none⟩ = some (.int .i64 r.weight) := hcell 5 _ (by rw [hcs]; rfl)
      have k6 : wo.cell? ⟨g, k * 7 + 6, none⟩ = some (.slice Ao r.out.length co) := hcell 6 _ (by rw [hcs]; rfl)
      have hlg := hgl.lenle.1
      have hlo := hol.lenle.1
      obtain ⟨W1, hW1⟩ : ∃ W1, W1 = wo.alloc (.cells #[.int .u8 r.name, .int .i64 r.arity, .int .u8 r.left, .int .u8 r.right, .slice Ag r.guards.length cg, .int .i64 r.weight, .slice Ao r.out.length co] 60) := ⟨_, rfl⟩
      have hb1 : Below wo.heap.size wo W1 := by rw [hW1]; exact (Below.refl _ _).alloc (Nat.le_refl _) _
      have f5 : (wo.alloc (.cells #[.int .u8 r.name, .int .i64 r.arity, .int .u8 r.left, .int .u8 r.right, .slice Ag r.guards.length cg, .int .i64 r.weight, .slice Ao r.out.length co] 60)).frozen? ⟨g, k * 7 + 5, none⟩ = false := by
        rw [← hW1]
        have e := hb1.block g hg2
        have := hfz (k * 7 + 5)
        unfold World.frozen? at this ⊢
        rw [e]; exact this
      have o0 := hown.out.setZ (i := k) (j := 5) (u := .int .i64 0) (halfZ_get hxk) (by decide) (fun F w cs hh => pRul_set5 F w cs hh)
      rw [halfZ_next hxk] at o0
      have o1 := o0.alloc (.cells #[.int .u8 r.name, .int .i64 r.arity, .int .u8 r.left, .int .u8 r.right, .slice Ag r.guards.length cg, .int .i64 r.weight, .slice Ao r.out.length co] 60)
      have hb3 : Below w.heap.size w ((wo.setCell ⟨g, k * 7 + 5, none⟩ (.int .i64 0)).alloc (.cells #[.int .u8 r.name, .int .i64 r.arity, .int .u8 r.left, .int .u8 r.right, .slice Ag r.guards.length cg, .int .i64 r.weight, .slice Ao r.out.length co] 60)) := (hb.out.setCell (by show w.heap.size ≤ g; exact hg1) _).alloc (by simp [World.setCell]; exact hsz) _
      have hz3 := hb3.size
      have k0' : (0 : Int) ≤ (k : Int) := Int.natCast_nonneg _
      have k1' : (k : Int) < (rs.length : Int) := by omega
      have hf5' := hf5.i64
      have Hxk := Lib.hid hxk; clear hxk
      have HRr := Lib.hid hRr; clear hRr
      have Hcs := Lib.hid hcs; clear hcs
      have O0 := Lib.hid o0; clear o0
      have O1 := Lib.hid o1; clear o1
      have Hb3 := Lib.hid hb3; clear hb3
      have Hown := Lib.hid hown; clear hown
      have Hr := Lib.hid hr; clear hr
      have Hcell := Lib.hid hcell; clear hcell
      have Hfz := Lib.hid hfz; clear hfz
      have Htk := Lib.hid htk; clear htk
      have Hb1 := Lib.hid hb1; clear hb1
      have Hgl := Lib.hid hgl; clear hgl
      have Hol := Lib.hid hol; clear hol
      have Hf5 := Lib.hid hf5; clear hf5
      clear hW1
      cases b
      · go_wp2
        go_roundw
        case rel => exact ⟨k + 1, hlt, by go_num, false, rfl, by unfold Hid; rw [Htk.out, ← hbk.out]; rfl, hz3, Hb3, O1⟩
        case measure => simp [intOf]; omega
      · by_cases hw1 : r.weight < 1
        · have hno : okW r = false := by unfold okW; simp; omega
          have Hno := Lib.hid hno; clear hno
          go_wp2
          go_roundw
          case rel => exact ⟨k + 1, hlt, by go_num, false, by first | rfl | (simp; omega), by unfold Hid; rw [Htk.out, Hno.out]; simp, hz3, Hb3, O1⟩
          case measure => simp [intOf]; omega
        · by_cases hw2 : 1000000 < r.weight
          · have hno : okW r = false := by unfold okW; simp; omega
            have Hno := Lib.hid hno; clear hno
            go_wp2
            go_roundw
            case rel => exact ⟨k + 1, hlt, by go_num, false, by first | rfl | (simp; omega), by unfold Hid; rw [Htk.out, Hno.out]; simp, hz3, Hb3, O1⟩
            case measure => simp [intOf]; omega
          · have hyes : okW r = true := by unfold okW; simp; omega
            have Hyes := Lib.hid hyes; clear hyes
            go_wp2
            go_roundw
            case rel => exact ⟨k + 1, hlt, by go_num, true, by first | rfl | (simp; omega), by unfold Hid; rw [Htk.out, Hyes.out, ← hbk.out]; rfl, hz3, Hb3, O1⟩
            case measure => simp [intOf]; omega
    case neg =>
      obtain rfl : k = rs.length := by omega
      have ho := hown.out
      rw [halfZ_all] at ho
      have hln : (rs.map zeroW).length = rs.length := List.length_map _
      obtain ⟨_, hsl⟩ := ho.sl'
      have S3 := Lib.hid ((hsl.wide (F' := Old wo) fun q hq => hq.2))
      have hsb : Small (rs.map zeroW) := ⟨by rw [hln]; exact Hs.out.l, fun x hx => by obtain ⟨y, hy, rfl⟩ := List.mem_map.1 hx; exact Hs.out.g y hy, fun x hx => by obtain ⟨y, hy, rfl⟩ := List.mem_map.1 hx; exact Hs.out.o y hy, fun x hx => by obtain ⟨y, hy, rfl⟩ := List.mem_map.1 hx; exact Hs.out.a y hy⟩
      have c1 := rCheck_calls A2 c2 (rs.map zeroW) wo S3.out hsb
      rw [hln] at c1
      have hq := checkC_eq rs
      have hbk' := hbk.out
      rw [List.take_length] at hbk'
      rw [← hbk'] at hq
      generalize checkR (rs.map zeroW) = y at c1 hq
      have C1 := Lib.hid c1; clear c1
      have Hsb := Lib.hid hsb; clear hsb
      have Ho := Lib.hid ho; clear ho
      have Hsl := Lib.hid hsl; clear hsl
      have Hln := Lib.hid hln; clear hln
      clear hown hbk hbk'
      by_cases hy : y = 0
      · subst hy
        rw [if_pos rfl] at hq
        cases b
        · have hq2 : checkC rs = 8 := hq
          have Hq2 := Lib.hid hq2; clear hq2
          clear hq
          go_wp2_with fail
          refine C1.out.mono ?_
          rintro e w4 ⟨rfl, b4⟩
          have hbz := hb.out.trans (b4.mono hsz)
          have Hbz := Lib.hid hbz; clear hbz
          clear b4
          go_wp2
          go_ret
          exact ⟨ret_int (by rw [Hq2.out]), Hbz.out⟩
        · have hq2 : checkC rs = 0 := hq
          have Hq2 := Lib.hid hq2; clear hq2
          clear hq
          go_wp2_with fail
          refine C1.out.mono ?_
          rintro e w4 ⟨rfl, b4⟩
          have hbz := hb.out.trans (b4.mono hsz)
          have Hbz := Lib.hid hbz; clear hbz
          clear b4
          go_wp2
          go_ret
          exact ⟨ret_int (by rw [Hq2.out]), Hbz.out⟩
      · rw [if_neg hy] at hq
        have e0 : (y != 0) = true := by simp [hy]
        have Hq := Lib.hid hq; clear hq
        have Hy := Lib.hid hy; clear hy
        go_wp2_with fail
        refine C1.out.mono ?_
        rintro e w4 ⟨rfl, b4⟩
        have hbz := hb.out.trans (b4.mono hsz)
        have Hbz := Lib.hid hbz; clear hbz
        clear b4
        go_wp2
        go_ret
        exact ⟨ret_int (by rw [Hq.out]), Hbz.out⟩
end Go.Proofs.YtlipmagkplbkdaaDoor

/-! Hj -/
namespace Go.Proofs.YtlipmagkplbkdaaDoor
open Go.RowKit Go.Sort
set_option linter.unusedVariables false
def fineC (r : Rul) : Bool := coreR r && (r.left == 0) && (r.right == 0) && okW r
theorem checkC_many {rs : List Rul} (h : manyR rs = true) : checkC rs = 4 := by unfold checkC; rw [if_pos h]
theorem checkC_all {rs : List Rul} (h : manyR rs = false) : checkC rs = if rs.all fineC = true then 0 else 8 := by unfold checkC; rw [if_neg (by rw [h]; decide)]; rfl
set_option maxRecDepth 100000 in
set_option maxHeartbeats 2000000 in
theorem refCheckC_calls (A : Option Addr) (c : Nat) (rs : List Rul) (w : World) (h : SlAt pRul (Old w) w A c rs) (hs : Small rs) :
    Calls Tryd.prog 22 #[.slice A rs.length c] w (IntPost (checkC rs) w) := by
  have hmx := h.lenle
  have H := Lib.hid h; clear h
  have Hs := Lib.hid hs; clear hs
  cases hmm : manyR rs
  · have hck := checkC_all hmm
    have Hck := Lib.hid hck; clear hck
    have Hmm := Lib.hid hmm; clear hmm
    go_enter Tryd.func22, Tryd.ntmps22
    go_wp2_with fail
    refine (many_calls A c rs _ H.out).mono ?_
    rintro e w' ⟨rfl, rfl⟩
    rw [Hmm.out]
    go_wp2
    go_loopw [3] (fun i wr => ∃ k : Nat, k ≤ rs.length ∧ i = .int .i64 k ∧ Hid (Below w.heap.size w wr) ∧ w.heap.size ≤ wr.heap.size ∧ Hid (rs.all fineC = (rs.drop k).all fineC)) (fun i _ => rs.length - (intOf i).toNat)
    case atStart => exact ⟨0, Nat.zero_le _, rfl, Below.refl _ _, Nat.le_refl _, rfl⟩
    case round =>
      obtain ⟨j, hj, rfl, hb2, hsz2, hall⟩ := hrel
      obtain ⟨wp, rfl⟩ : ∃ wp : World, wp = wr := ⟨_, rfl⟩
      by_cases hlt : j < rs.length
      · obtain ⟨b, o, A1, c1, A2, c2, r, hd, rfl, hob, k0, k1, k2, k3, k4, k5, k6, hat, hl1, hl2⟩ := (H.out.below hb2.out).getRulAt hlt
        have hob' : b < wp.heap.size := Nat.lt_of_lt_of_le hob hsz2
        have hmem := mem_of_drop hd.out
        have hcall : Calls Tryd.prog 51 #[.agg #[.int .u8 r.name, .int .i64 r.arity, .int .u8 r.left, .int .u8 r.right, .slice A1 r.guards.length c1, .int .i64 r.weight, .slice A2 r.out.length c2]] wp (BoolPost (coreR r) wp) :=
          refRFine_calls r A1 c1 A2 c2 wp (hat.out.to hsz2 (Below.refl _ _)) (Hs.out.g r hmem) (Hs.out.o r hmem) (Hs.out.a r hmem)
        have Hcall := Lib.hid hcall; clear hcall
        have Hmem := Lib.hid hmem; clear hmem
        go_wp2_with fail
        refine (Hcall.out).mono ?_
        rintro e w1 ⟨rfl, hb1⟩
        have hbw : Below w.heap.size w w1 := hb2.out.trans (hb1.mono hsz2)
        have l0 := (hb1.cell (p := ⟨b, o + j * 7 + 2, none⟩) hob').trans k2
        have l1 := (hb1.cell (p := ⟨b, o + j * 7 + 3, none⟩) hob').trans k3
        have l2 := (hb1.cell (p := ⟨b, o + j * 7 + 5, none⟩) hob').trans k5
        have Hbw := Lib.hid hbw; clear hbw
        clear hb1 k0 k1 k2 k3 k4 k5 k6
        have hcs : (fineC r = false ∧ (coreR r = false ∨ (coreR r = true ∧ (r.left != 0) = true) ∨ (coreR r = true ∧ (r.left != 0) = false ∧ (r.right != 0) = true) ∨ (coreR r = true ∧ (r.left != 0) = false ∧ (r.right != 0) = false ∧ r.weight < 1) ∨ (coreR r = true ∧ (r.left != 0) = false ∧ (r.right != 0) = false ∧ ¬ r.weight < 1 ∧ 1000000 < r.weight))) ∨
            (fineC r = true ∧ coreR r = true ∧ (r.left != 0) = false ∧ (r.right != 0) = false ∧ ¬ r.weight < 1 ∧ ¬ 1000000 < r.weight) := by
          unfold fineC okW
          cases coreR r
          · exact .inl ⟨rfl, .inl rfl⟩
          · by_cases h1 : r.left = 0
            · by_cases h2 : r.right = 0
              · by_cases h3 : r.weight < 1
                · left; simp [h1, h2, h3]; omega
                · by_cases h4 : 1000000 < r.weight
                  · left; simp [h1, h2, h3, h4]
                  · right; simp [h1, h2, h3, h4]; omega
              · left; simp [h1, h2]
            · left; simp [h1]
        rcases hcs with ⟨hfm, hcs⟩ | ⟨hfm, hc0, hc1, hc2, hc3, hc4⟩
        · have hno : checkC rs = 8 := by rw [Hck.out, if_neg (by rw [hall.out, hd.out, List.all_cons, hfm]; simp)]
          have Hno := Lib.hid hno; clear hno
          have Hfm := Lib.hid hfm; clear hfm
          rcases hcs with hc0 | ⟨hc0, hc1⟩ | ⟨hc0, hc1, hc2⟩ | ⟨hc0, hc1, hc2, hc3⟩ | ⟨hc0, hc1, hc2, hc3, hc4⟩
          all_goals
            rw [hc0]
            have Hc0 := Lib.hid hc0; clear hc0
            go_wp2
            go_ret
            exact ⟨by rw [Hno.out]; rfl, Hbw.out⟩
        · have Hfm := Lib.hid hfm; clear hfm
          rw [hc0]
          have Hc0 := Lib.hid hc0; clear hc0
          go_wp2
          go_roundw
          case rel =>
            refine ⟨j + 1, by omega, by go_num, Hbw, Hbw.out.size, ?_⟩
            unfold Hid; rw [hall.out, hd.out, List.all_cons, Hfm.out]; rfl
          case measure => simp [intOf]; omega
      · go_wp2
        go_ret
        exact ⟨ret_int (by rw [Hck.out, if_pos (by rw [hall.out, drop_end hlt]; rfl)]), hb2.out⟩
  · have hck := checkC_many hmm
    have Hck := Lib.hid hck; clear hck
    have Hmm := Lib.hid hmm; clear hmm
    go_enter Tryd.func22, Tryd.ntmps22
    go_wp2_with fail
    refine (many_calls A c rs _ H.out).mono ?_
    rintro e w' ⟨rfl, rfl⟩
    rw [Hmm.out]
    go_wp2
    go_ret
    exact ⟨by rw [Hck.out]; rfl, Below.refl _ _⟩
end Go.Proofs.YtlipmagkplbkdaaDoor

/-! He -/
namespace Go.Proofs.YtlipmagkplbkdaaDoor
open Go.RowKit Go.Sort Go.BigFrame
set_option linter.unusedVariables false
theorem cel_beq (x y : Cel) : (x == y) = (decide (x.path = y.path) && x.mod == y.mod) := by
  obtain ⟨p, m⟩ := x
  obtain ⟨q, n⟩ := y
  rw [Bool.eq_iff_iff]
  simp
theorem cons_beq {α : Type} [BEq α] (a b : α) (s t : List α) : ((a :: s) == (b :: t)) = (a == b && s == t) := rfl
set_option maxRecDepth 100000 in
set_option maxHeartbeats 2000000 in
theorem sameC_calls (A B : Option Addr) (c c' : Nat) (xs ys : List Cel) (w : World) (h : SlAt pCel (Old w) w A c xs) (h' : SlAt pCel (Old w) w B c' ys) :
    Calls Tryd.prog 15 #[.slice A xs.length c, .slice B ys.length c'] w (BoolPost (xs == ys) w) := by
  have hmx := h.lenle
  have hmy := h'.lenle
  have H := Lib.hid h; clear h
  have H' := Lib.hid h'; clear h'
  by_cases hl : xs.length = ys.length
  · have e1 : ((xs.length : Int) != (ys.length : Int)) = false := by simp [hl]
    have Hl := Lib.hid hl; clear hl
    go_enter Tryd.func15, Tryd.ntmps15
    go_wp2
    go_loopw [5] (fun i wr => ∃ k : Nat, k ≤ xs.length ∧ i = .int .i64 k ∧ Hid ((xs == ys) = (xs.drop k == ys.drop k)) ∧ Hid (Below w.heap.size w wr) ∧ w.heap.size ≤ wr.heap.size) (fun i _ => xs.length - (intOf i).toNat)
    case atStart => exact ⟨0, Nat.zero_le _, rfl, rfl, Below.refl _ _, Nat.le_refl _⟩
    case round =>
      obtain ⟨k, hk, rfl, hin, hb, hsz⟩ := hrel
      obtain ⟨wo, rfl⟩ : ∃ wo : World, wo = wr := ⟨_, rfl⟩
      by_cases hlt : k < xs.length
      · have hlt' : k < ys.length := by rw [← Hl.out]; exact hlt
        obtain ⟨b, o, A', d, m, hdx, rfl, _, x0, x1, x2, _, _, hxa, _⟩ := (H.out.below hb.out).getCel hlt
        obtain ⟨b', o', B', d', n, hdy, rfl, _, z0, z1, z2, _, _, hya, _⟩ := (H'.out.below hb.out).getCel hlt'
        have hcall : ∀ (q : Nat) (os : Array Obj), Calls Tryd.prog 41 #[.agg #[.int .u8 m.mod.name, .slice A' m.mod.args.length d], .agg #[.int .u8 n.mod.name, .slice B' n.mod.args.length d']] (grow (redrawn wo q) os) fun e w'' => e = .returned (.bool (m.mod == n.mod)) ∧ ∃ p : Regrown, w'' = grow (redrawn wo p.d) p.os := fun q os =>
          have hg := below_regrown wo q os
          Calls.regrown_of (sameMods_calls A' B' d d' m.mod n.mod _ (hxa.out.keep fun k hk => hg.block k (Nat.lt_of_lt_of_le hk hsz)) (hya.out.keep fun k hk => hg.block k (Nat.lt_of_lt_of_le hk hsz)) (fun k hk => Nat.lt_of_lt_of_le (Nat.lt_of_lt_of_le hk hsz) hg.size))
        have kx0 := cell_regrown x0
        have kx1 := cell_regrown x1
        have kx2 := cell_regrown x2
        have ky0 := cell_regrown z0
        have ky1 := cell_regrown z1
        have ky2 := cell_regrown z2
        have Hcall := Lib.hid hcall; clear hcall
        clear x0 x1 x2 z0 z1 z2
        have hk0 : (0 : Int) ≤ (k : Int) := Int.natCast_nonneg _
        have hk1 : (k : Int) < (xs.length : Int) := by omega
        have hk2 : (k : Int) < (ys.length : Int) := by omega
        by_cases hp : m.path = n.path
        · rw [hp] at kx0
          have hst : (xs == ys) = (m.mod == n.mod && (xs.drop (k + 1) == ys.drop (k + 1))) := by
            rw [hin.out, hdx.out, hdy.out, cons_beq, cel_beq, decide_eq_true hp, Bool.true_and]
          generalize hmn : (m.mod == n.mod) = t at Hcall hst
          have Hp := Lib.hid hp; clear hp
          have Hst := Lib.hid hst; clear hst
          have Hmn := Lib.hid hmn; clear hmn
          clear hin hxa hya
          go_wp2
          refine wp_region_quiet_below (by kernel_rfl) (by kernel_rfl) ?_
          iterate 25 (go_big_quiet_step (exact (Hcall.out _ _).mono fun e w'' h => h))
          refine wpQuiet_nil ?_
          intro _ hw'
          obtain ⟨⟨dq, osq⟩, hw''⟩ := hw'
          subst hw''
          have hbr := below_regrown wo dq osq
          have hbx := hb.out.trans (hbr.mono hsz)
          have Hbx := Lib.hid hbx; clear hbx
          clear hbr kx0 kx1 kx2 ky0 ky1 ky2
          cases t
          · go_wp2
            go_ret
            exact ⟨ret_bool (by rw [Hst.out]; rfl), Hbx.out⟩
          · go_wp2
            go_roundw
            case rel => exact ⟨k + 1, by omega, by go_num, by unfold Hid; rw [Hst.out]; rfl, Hbx, Hbx.out.size⟩
            case measure => simp [intOf]; omega
        · have hpl : m.path.toList ≠ n.path.toList := fun e => hp (by rw [ByteArray.toList_eq, ByteArray.toList_eq] at e; exact ByteArray.ext (Array.toList_inj.1 e))
          have e2 : (m.path.toList == n.path.toList) = false := beq_false_of_ne hpl
          have e3 : (m.path.toList != n.path.toList) = true := by simp [hpl]
          have hst : (xs == ys) = false := by
            rw [hin.out, hdx.out, hdy.out, cons_beq, cel_beq, decide_eq_false hp]; rfl
          clear hpl
          have Hp := Lib.hid hp; clear hp
          have Hst := Lib.hid hst; clear hst
          clear hin hxa hya
          go_wp2
          refine wp_region_quiet_below (by kernel_rfl) (by kernel_rfl) ?_
          iterate 25 (go_big_quiet_step (exact (Hcall.out _ _).mono fun e w'' h => h))
          refine wpQuiet_nil ?_
          intro _ hw'
          obtain ⟨⟨dq, osq⟩, hw''⟩ := hw'
          subst hw''
          have hbr := below_regrown wo dq osq
          have hbx := hb.out.trans (hbr.mono hsz)
          have Hbx := Lib.hid hbx; clear hbx
          clear hbr kx0 kx1 kx2 ky0 ky1 ky2
          go_wp2
          go_ret
          exact ⟨ret_bool (by rw [Hst.out]), Hbx.out⟩
      · have hy : (xs == ys) = true := by rw [hin.out, drop_end hlt, drop_end (by rw [← Hl.out]; exact hlt)]; rfl
        have Hy := Lib.hid hy; clear hy
        clear hin
        go_wp2
        go_ret
        exact ⟨ret_bool (by rw [Hy.out]), hb.out⟩
  · have e1 : ((xs.length : Int) != (ys.length : Int)) = true := by simp; omega
    have hy : (xs == ys) = false := beq_false_of_ne fun e => hl (by rw [e])
    have Hl := Lib.hid hl; clear hl
    have Hy := Lib.hid hy; clear hy
    go_enter Tryd.func15, Tryd.ntmps15
    go_wp2
    go_ret
    exact ⟨ret_bool (by rw [Hy.out]), Below.refl _ _⟩
end Go.Proofs.YtlipmagkplbkdaaDoor

/-! Hf -/
namespace Go.Proofs.YtlipmagkplbkdaaDoor
open Go.RowKit
set_option linter.unusedVariables false
def TabAt (w : World) : Prop := Lib.TabIs Tryd.prog w "internal/strconv.uint64pow10" .u64 Lib.pow10Tab
def GAt (w : World) : Prop := ∃ g, Tryd.prog.globalNamed "internal/strconv.uint64pow10" = some g ∧ g < w.heap.size
theorem TabAt.later {w w' : World} (h : TabAt w) (hb : Below w.heap.size w w') (hg : GAt w) : TabAt w' := by
  obtain ⟨g, h1, h2⟩ := hg
  exact var?_below hb h1 h2 h
theorem GAt.later {w w' : World} (h : GAt w) (hb : Below w.heap.size w w') : GAt w' := by
  obtain ⟨g, h1, h2⟩ := h
  exact ⟨g, h1, Nat.lt_of_lt_of_le h2 hb.size⟩
def itoaB (k : Nat) : ByteArray := ⟨(Lib.itoa (k : Int)).toArray⟩
theorem itoaB_size {k : Nat} (h : k ≤ 1000000) : (itoaB k).size ≤ 21 := by
  have h1 := Lib.itoa_length_le (k : Int) (by omega) (by omega)
  have h2 : (itoaB k).size = (Lib.itoa (k : Int)).length := by show (Lib.itoa (k : Int)).toArray.size = _; simp
  omega
theorem below_grow2 (w : World) (k : Nat) (os : Array Obj) : Below w.heap.size w (Go.Sort.grow (w.drewN k) os) :=
  ⟨rfl, rfl, rfl, by show w.heap.size ≤ (w.heap ++ os).size; simp, fun i hi => by show (w.heap ++ os)[i]? = _; rw [Array.getElem?_append_left hi]⟩
theorem itoaC_calls (k : Nat) (w : World) (hk : k ≤ 1000000) (ht : TabAt w) : Calls Tryd.prog 44 #[.int .i64 k] w fun e w' => e = .returned (.string (itoaB k)) ∧ Below w.heap.size w w' := by
  refine (Tryd.strconv_Itoa k (by omega) (by omega) w ht).mono ?_
  rintro e w' ⟨rfl, q, os, rfl⟩
  exact ⟨rfl, below_grow2 _ _ _⟩
end Go.Proofs.YtlipmagkplbkdaaDoor

/-! Pa -/
namespace Go.Proofs.YtlipmagkplbkdaaDoor
open Go.RowKit
theorem dec_big {u : Nat} (h : ¬ u < 10) : Lib.decDigits u = Lib.decDigits (u / 10) ++ [UInt8.ofNat (48 + u % 10)] := by rw [Lib.decDigits, dif_neg h]
end Go.Proofs.YtlipmagkplbkdaaDoor

/-! Pb -/
namespace Go.Proofs.YtlipmagkplbkdaaDoor
open Go.RowKit
end Go.Proofs.YtlipmagkplbkdaaDoor

/-! Hp -/
namespace Go.Proofs.YtlipmagkplbkdaaDoor
open Go.RowKit Go.Sort
set_option linter.unusedVariables false
theorem ret_strP {a b : ByteArray} (h : a = b) : Ending.returned (.string a) = .returned (.string b) := by rw [h]
def dgS : ByteArray := ⟨#[48, 49, 50, 51, 52, 53, 54, 55, 56, 57]⟩
def dg (d : Nat) : ByteArray := dgS.extract d (d + 1)
def decGo : Nat → Nat → ByteArray → ByteArray
  | 0, _, t => t
  | f + 1, m, t => if m = 0 then t else decGo f (m / 10) (dg (m % 10) ++ t)
theorem decGo_zero (f : Nat) (t : ByteArray) : decGo f 0 t = t := by cases f <;> simp [decGo]
theorem dg_size (d : Nat) : (dg d).size ≤ 1 := by
  unfold dg
  rw [ByteArray.size_extract]
  omega
theorem dg_all : ∀ d : Fin 10, (dg d.val).data.toList = [UInt8.ofNat (48 + d.val)] := by decide +kernel
theorem dg_list {d : Nat} (h : d < 10) : (dg d).data.toList = [UInt8.ofNat (48 + d)] := dg_all ⟨d, h⟩
theorem dec_step {m : Nat} (h : m ≠ 0) : Lib.decDigits m = (if m / 10 = 0 then [] else Lib.decDigits (m / 10)) ++ [UInt8.ofNat (48 + m % 10)] := by
  by_cases h1 : m < 10
  · rw [if_pos (by omega), Lib.decDigits_one h1, show m % 10 = m from by omega]; rfl
  · rw [if_neg (by omega), dec_big h1]
theorem decGo_dec : ∀ (f m : Nat) (t : ByteArray), m < 10 ^ f → (decGo f m t).data.toList = (if m = 0 then [] else Lib.decDigits m) ++ t.data.toList
  | 0, m, t, h => by
    have : m = 0 := by simpa using h
    subst this; rfl
  | f + 1, m, t, h => by
    unfold decGo
    by_cases hm : m = 0
    · rw [if_pos hm, if_pos hm]; rfl
    · rw [if_neg hm, if_neg hm, decGo_dec f (m / 10) _ (by rw [Nat.pow_succ] at h; omega), dec_step hm, ByteArray.data_append, Array.toList_append, dg_list (by omega), List.append_assoc]
theorem dec_ten {n : Nat} (h : n < 10 ^ 11) : (decGo 10 (n / 10) (dg (n % 10))).data.toList = Lib.decDigits n := by
  rw [decGo_dec 10 _ _ (by omega), dg_list (by omega)]
  by_cases hn : n = 0
  · subst hn; rw [if_pos rfl, Lib.decDigits_one (by omega)]; rfl
  · rw [dec_step hn]
set_option maxRecDepth 100000 in
set_option maxHeartbeats 2000000 in
theorem decimalN_calls (n : Nat) (hn : n ≤ 9000000000) (w : World) : Calls Tryd.prog 46 #[.int .i64 n] w fun e w' => e = .returned (.string ⟨(Lib.decDigits n).toArray⟩) ∧ w = w' := by
  have hres : decGo 10 (n / 10) (dg (n % 10)) = ⟨(Lib.decDigits n).toArray⟩ := by
    rw [← dec_ten (n := n) (by omega)]
  have e1 : (n : Int) % 10 = ((n % 10 : Nat) : Int) := by omega
  have e2 : (n : Int) / 10 = ((n / 10 : Nat) : Int) := by omega
  obtain ⟨d0, hd0⟩ : ∃ d0, n % 10 = d0 := ⟨_, rfl⟩
  obtain ⟨m0, hm0⟩ : ∃ m0, n / 10 = m0 := ⟨_, rfl⟩
  have hdl : d0 < 10 := by omega
  have hml : m0 ≤ 900000000 := by omega
  rw [hd0] at e1
  rw [hm0] at e2
  rw [hd0, hm0] at hres
  have hx : dgS.extract d0 (d0 + 1) = dg d0 := rfl
  have hz := dg_size d0
  have w1 : IntKind.i64.wrap ((d0 : Int) + 1) = (d0 : Int) + 1 := IntWalk.i64_in _ (by omega)
  have w2 : ((d0 : Int) + 1).toNat = d0 + 1 := by omega
  have Hres := Lib.hid hres; clear hres
  have Hd0 := Lib.hid hd0; clear hd0
  have Hm0 := Lib.hid hm0; clear hm0
  have Hz := Lib.hid hz; clear hz
  go_enter Tryd.func46, Tryd.ntmps46
  go_wp2
  go_loop [0, 4] (fun s0 s4 => ∃ (f m : Nat) (t : ByteArray), s0 = .int .i64 m ∧ s4 = .string t ∧ Hid (m < 10 ^ f) ∧ m ≤ 900000000 ∧ Hid (t.size + f ≤ 11) ∧ Hid (decGo 10 m0 (dg d0) = decGo f m t)) (fun s0 _ => (intOf s0).toNat)
  case atStart => exact ⟨10, m0, dg d0, rfl, rfl, by unfold Hid; omega, by omega, by unfold Hid; have := Hz.out; omega, rfl⟩
  case round =>
    obtain ⟨f, m, t, rfl, rfl, hmf, hm20, hts, hgo⟩ := hrel
    by_cases hm : m = 0
    · subst hm
      have hr : t = ⟨(Lib.decDigits n).toArray⟩ := by rw [← Hres.out, hgo.out, decGo_zero]
      have Hr := Lib.hid hr; clear hr
      clear hmf hm20 hts
      go_wp2
      go_ret
      exact ⟨by rw [Hr.out]; rfl, rfl⟩
    · obtain ⟨f', rfl⟩ : ∃ f', f = f' + 1 := by
        cases f with
        | zero => have := hmf.out; simp at this; exact absurd this hm
        | succ f => exact ⟨f, rfl⟩
      have u1 : (m : Int) % 10 = ((m % 10 : Nat) : Int) := by omega
      have u2 : (m : Int) / 10 = ((m / 10 : Nat) : Int) := by omega
      have hstep : decGo (f' + 1) m t = decGo f' (m / 10) (dg (m % 10) ++ t) := by
        conv => lhs; unfold decGo
        rw [if_neg hm]
      obtain ⟨d, hd⟩ : ∃ d, m % 10 = d := ⟨_, rfl⟩
      obtain ⟨q, hq⟩ : ∃ q, m / 10 = q := ⟨_, rfl⟩
      have hdl' : d < 10 := by omega
      have hql : q < 10 ^ f' := by have h := hmf.out; rw [Nat.pow_succ] at h; omega
      have hqm : q < m := by omega
      rw [hd] at u1 hstep
      rw [hq] at u2 hstep
      have v1 : IntKind.i64.wrap ((d : Int) + 1) = (d : Int) + 1 := IntWalk.i64_in _ (by omega)
      have v2 : ((d : Int) + 1).toNat = d + 1 := by omega
      have hpos : 0 < m := by omega
      have hsz : (dg d ++ t).size + f' ≤ 11 := by
        rw [ByteArray.size_append]
        have := dg_size d
        have := hts.out
        omega
      have hdz := dg_size d
      have ht5 : t.size ≤ 11 := by have := hts.out; omega
      have Hd := Lib.hid hd; clear hd
      have Hq := Lib.hid hq; clear hq
      have Hstep := Lib.hid hstep; clear hstep
      have Hql := Lib.hid hql; clear hql
      have Hsz := Lib.hid hsz; clear hsz
      have Hdz := Lib.hid hdz; clear hdz
      clear hmf hts
      go_wp2
      go_round
      case rel => exact ⟨f', q, dg d ++ t, rfl, rfl, Hql.out, by omega, Hsz.out, by unfold Hid; rw [hgo.out, Hstep.out]⟩
      case measure => simp [intOf]; omega
set_option maxRecDepth 100000 in
theorem decimal_calls (n : Int) (hn : -9000000000 ≤ n ∧ n ≤ 9000000000) (w : World) : Calls Tryd.prog 46 #[.int .i64 n] w fun e w' => e = .returned (.string ⟨(Lib.itoa n).toArray⟩) ∧ w = w' := by
  by_cases h0 : 0 ≤ n
  · obtain ⟨u, rfl⟩ : ∃ u : Nat, n = u := ⟨n.toNat, by omega⟩
    have h := decimalN_calls u (by omega) w
    rw [Lib.itoa_nonneg]
    exact h
  · obtain ⟨u, hu⟩ : ∃ u : Nat, -n = u := ⟨(-n).toNat, by omega⟩
    have h := decimalN_calls u (by omega) w
    have hi : Lib.itoa n = 45 :: Lib.decDigits u := by rw [show n = -(u : Int) from by omega]; exact Lib.itoa_neg u (by omega)
    have hsz : (Lib.decDigits u).length ≤ 21 := by have := Lib.itoa_length_le (u : Int) (by omega) (by omega); rwa [Lib.itoa_nonneg] at this
    have hlt : n < 0 := by omega
    have H := Lib.hid h; clear h
    have Hi := Lib.hid hi; clear hi
    have Hsz := Lib.hid hsz; clear hsz
    go_enter Tryd.func46, Tryd.ntmps46
    go_wp2_with fail
    refine H.out.mono ?_
    rintro e w' ⟨rfl, rfl⟩
    obtain ⟨s, hs⟩ : ∃ s : ByteArray, s = ⟨(Lib.decDigits u).toArray⟩ := ⟨_, rfl⟩
    have hss : s.size ≤ 21 := by rw [hs]; show (Lib.decDigits u).toArray.size ≤ 21; simpa using Hsz.out
    rw [← hs]
    have Hs := Lib.hid hs; clear hs
    go_wp2
    go_ret
    refine ⟨?_, rfl⟩
    rw [Hi.out, Hs.out]
    refine ret_strP ?_
    apply ByteArray.ext
    rw [ByteArray.data_append]
    apply Array.ext'
    rw [Array.toList_append]
    rfl
end Go.Proofs.YtlipmagkplbkdaaDoor

/-! Hg -/
namespace Go.Proofs.YtlipmagkplbkdaaDoor
open Go.RowKit
set_option linter.unusedVariables false
theorem decC_calls (k : Nat) (w : World) (hk : k ≤ 1000000) : Calls Tryd.prog 46 #[.int .i64 k] w fun e w' => e = .returned (.string (itoaB k)) ∧ w = w' :=
  decimal_calls (k : Int) ⟨by omega, by omega⟩ w
end Go.Proofs.YtlipmagkplbkdaaDoor

/-! Ff -/
namespace Go.Proofs.YtlipmagkplbkdaaDoor
open Go.RowKit Go.Sort
theorem check_F (args : List Int) : checkF [⟨70, args⟩] = 0 ↔ args.all argOk = true ∧ args.length ≤ 4 := by
  have h1 : fineF ⟨70, args⟩ = (args.all argOk && decide (args.length ≤ 4)) := by
    unfold fineF shapeOk
    rw [show letterB 70 = true from by decide]
    cases args with
    | nil => rfl
    | cons x l => simp
  unfold checkF
  rw [if_neg (by simp), List.all_cons, List.all_nil, Bool.and_true, h1]
  cases args.all argOk
  · simp
  · by_cases h : args.length ≤ 4
    · simp [h, scan]
    · simp [h]
theorem modCheck {F : Nat → Prop} (W : World) (m : Mod) (h8 : Fits .u8 m.name) (A : Option Addr) (c : Nat) (h : SlAt (pI .i64) F W A c m.args) (hF : ∀ k, F k → k < W.heap.size) (n : Nat) (hn : W.heap.size = n) :
    Calls Tryd.prog 42 #[.slice (some ⟨n, 0, none⟩) 1 1] (W.alloc (.cells #[.int .u8 m.name, .slice A m.args.length c] 49)) (CheckPost [m] (W.alloc (.cells #[.int .u8 m.name, .slice A m.args.length c] 49))) := by
  subst hn
  refine wordCheck_calls (some ⟨W.heap.size, 0, none⟩) 1 [m] _ ?_
  refine (sl_boxed (E := pMod) (F := F) (u := .agg #[.int .u8 m.name, .slice A m.args.length c]) ⟨A, c, by simp [Value.cells], h8, h⟩ hF).wide ?_
  intro k hk
  rcases hk with hk | rfl
  · have := hF k hk; unfold Old; simp; omega
  · unfold Old; simp
theorem valueF_bad {f : Frm} {args : List Int} (h : formF f args.length = false ∨ ¬ (args.all argOk = true ∧ args.length ≤ 4)) : valueF f args = (0, 8) := by
  unfold valueF
  rw [if_neg]
  rintro ⟨h1, h2, h3⟩
  rcases h with h | h
  · rw [h] at h1; cases h1
  · exact h ⟨h2, h3⟩
theorem valueF_ok {f : Frm} {args : List Int} (h : SumOk f args) (hf : formF f args.length = true) : valueF f args = if worthF f args < -1000000000 ∨ 1000000000 < worthF f args then (0, 16) else (worthF f args, 0) := by
  unfold valueF
  rw [if_pos ⟨hf, List.all_eq_true.2 h.a, h.l⟩]
set_option maxRecDepth 100000 in
set_option maxHeartbeats 2000000 in
theorem value_calls (A : Option Addr) (c : Nat) (f : Frm) (A' : Option Addr) (c' : Nat) (args : List Int) (w : World) (h : SlAt (pI .i64) (Old w) w A c f.coefs) (h' : SlAt (pI .i64) (Old w) w A' c' args) (hc : Fits .i64 f.const) :
    Calls Tryd.prog 70 #[.agg #[.int .i64 f.const, .slice A f.coefs.length c], .slice A' args.length c'] w (PairPost (valueF f args) w) := by
  have hmx := h.lenle
  have hmx' := h'.lenle
  obtain ⟨W0, hW0⟩ : ∃ W0, W0 = w.alloc (.cells #[.int .i64 f.const, .slice A f.coefs.length c] 70) := ⟨_, rfl⟩
  have hb0 : Below w.heap.size w W0 := by rw [hW0]; exact (Below.refl _ _).alloc (Nat.le_refl _) _
  have hz0 : W0.heap.size = w.heap.size + 1 := by rw [hW0]; simp
  have hbl0 : Blk W0 w.heap.size 70 #[.int .i64 f.const, .slice A f.coefs.length c] := by rw [hW0]; exact Blk.new _ _ _
  have hF : ∀ k, Old w k → k < W0.heap.size := fun k hk => by have : k < w.heap.size := hk; omega
  have h2 : SlAt (pI .i64) (Old w) W0 A c f.coefs := h.below hb0
  have h3 : SlAt (pI .i64) (Old w) W0 A' c' args := h'.below hb0
  have hz0' : w.heap.size < W0.heap.size := by omega
  have y0 := hbl0.cell 0
  have y1 := hbl0.cell 1
  have H2 := Lib.hid h2; clear h2
  have H3 := Lib.hid h3; clear h3
  have HF := Lib.hid hF; clear hF
  have Hb0 := Lib.hid hb0; clear hb0
  have Hz0 := Lib.hid hz0; clear hz0
  have Hbl0 := Lib.hid hbl0; clear hbl0
  clear h h'
  cases hf : formF f args.length
  · have hv := valueF_bad (args := args) (.inl hf)
    have Hv := Lib.hid hv; clear hv
    have HW0 := Lib.hid hW0; clear hW0
    go_enter Tryd.func70, Tryd.ntmps70
    go_wp2_with fail
    rw [← HW0.out]
    refine (form_calls A c f args.length W0 H2.out HF.out hc (by omega)).mono ?_
    rintro e w1 ⟨rfl, hb1⟩
    have hbw : Below w.heap.size w w1 := Hb0.out.trans (hb1.mono (by omega))
    rw [hf]
    have Hbw := Lib.hid hbw; clear hbw
    go_wp2
    go_ret2
    exact ⟨by rw [Hv.out]; rfl, Hbw.out⟩
  · have Hf := Lib.hid hf; clear hf
    have HW0 := Lib.hid hW0; clear hW0
    go_enter Tryd.func70, Tryd.ntmps70
    go_wp2_with fail
    rw [← HW0.out]
    refine (form_calls A c f args.length W0 H2.out HF.out hc (by omega)).mono ?_
    rintro e w1 ⟨rfl, hb1⟩
    have hz1 := hb1.size
    have hbw1 : Below w.heap.size w w1 := Hb0.out.trans (hb1.mono (by omega))
    have hbl1 := Hbl0.out.same (hb1.block _ hz0')
    have hk2 : SlAt (pI .i64) (Old w) w1 A c f.coefs := H2.out.keep fun q hq => hb1.block q (HF.out q hq)
    have hk3 : SlAt (pI .i64) (Old w) w1 A' c' args := H3.out.keep fun q hq => hb1.block q (HF.out q hq)
    rw [Hf.out]
    have Hbw1 := Lib.hid hbw1; clear hbw1
    have Hbl1 := Lib.hid hbl1; clear hbl1
    have Hk2 := Lib.hid hk2; clear hk2
    have Hk3 := Lib.hid hk3; clear hk3
    clear hb1 y0 y1
    go_wp2_with fail
    ((with_reducible refine (modCheck w1 ⟨70, args⟩ (by exact fits_u8 (n := 70) (by decide)) A' c' Hk3.out (by exact fun k hk => Nat.lt_of_lt_of_le (HF.out k hk) hz1) _ rfl).mono ?_))
    rintro e w2 ⟨rfl, hb2⟩
    have hz2 : w1.heap.size + 1 ≤ w2.heap.size := by have := hb2.size; simpa using this
    have hbw2 : Below w.heap.size w w2 := (Hbw1.out.alloc (by omega) _).trans (hb2.mono (by simp; omega))
    have hbo2 : ∀ q, q < w1.heap.size → w2.heap[q]? = w1.heap[q]? := fun q hq => (hb2.block q (by simp; omega)).trans (Below.heap_alloc _ _ _ hq)
    have hbl2 := Hbl1.out.same (hbo2 _ (by omega))
    have hj2 : SlAt (pI .i64) (Old w) w2 A c f.coefs := Hk2.out.keep fun q hq => hbo2 q (Nat.lt_of_lt_of_le (HF.out q hq) hz1)
    have hj3 : SlAt (pI .i64) (Old w) w2 A' c' args := Hk3.out.keep fun q hq => hbo2 q (Nat.lt_of_lt_of_le (HF.out q hq) hz1)
    have y0 := hbl2.cell 0
    have y1 := hbl2.cell 1
    have Hbw2 := Lib.hid hbw2; clear hbw2
    have Hj2 := Lib.hid hj2; clear hj2
    have Hj3 := Lib.hid hj3; clear hj3
    clear hb2 hbo2 hbl2
    have hcf := check_F args
    by_cases hck : checkF [⟨70, args⟩] = 0
    · have hok : SumOk f args := sumOk Hf.out (hcf.1 hck).1 (hcf.1 hck).2
      have hbd := worth_bd hok
      have hv := valueF_ok hok Hf.out
      have e0 : (checkF [⟨70, args⟩] != 0) = false := by simp [hck]
      have Hck := Lib.hid hck; clear hck
      have Hok := Lib.hid hok; clear hok
      have Hv := Lib.hid hv; clear hv
      clear hcf
      go_wp2_with fail
      refine (worth_calls A c f A' c' args w2 Hj2.out Hj3.out (by exact fun k hk => by have := HF.out k hk; omega) Hok.out).mono ?_
      rintro e w3 ⟨rfl, hb3⟩
      have hbw3 : Below w.heap.size w w3 := Hbw2.out.trans (hb3.mono (by omega))
      have Hbw3 := Lib.hid hbw3; clear hbw3
      clear hb3
      obtain ⟨v, hvv⟩ : ∃ v, worthF f args = v := ⟨_, rfl⟩
      have Hvv := Lib.hid hvv
      rw [hvv] at hbd ⊢
      clear hvv
      by_cases h0 : v < -1000000000
      · go_wp2
        go_ret2
        exact ⟨by rw [Hv.out, Hvv.out, if_pos (.inl (by omega))]; rfl, Hbw3.out⟩
      · by_cases h1 : 1000000000 < v
        · go_wp2
          go_ret2
          exact ⟨by rw [Hv.out, Hvv.out, if_pos (.inr (by omega))]; rfl, Hbw3.out⟩
        · go_wp2
          go_ret2
          exact ⟨by rw [Hv.out, Hvv.out, if_neg (by omega)]; rfl, Hbw3.out⟩
    · have hv := valueF_bad (f := f) (args := args) (.inr fun h => hck (hcf.2 h))
      have e0 : (checkF [⟨70, args⟩] != 0) = true := by simp [hck]
      have Hv := Lib.hid hv; clear hv
      clear hcf hck
      go_wp2
      go_ret2
      exact ⟨by rw [Hv.out]; rfl, Hbw2.out⟩
end Go.Proofs.YtlipmagkplbkdaaDoor

/-! Fg -/
namespace Go.Proofs.YtlipmagkplbkdaaDoor
open Go.RowKit Go.Sort
theorem fitsF_name {r : Rul} {m : Mod} (h : (r.name != m.name) = true) : fitsF r m = false := by
  have h' : (r.name == m.name) = false := by simpa using h
  unfold fitsF; rw [h']; rfl
theorem fitsF_arity {r : Rul} {m : Mod} (h : (r.arity != (m.args.length : Int)) = true) : fitsF r m = false := by
  have h' : (r.arity == (m.args.length : Int)) = false := by simpa using h
  unfold fitsF; rw [h', Bool.and_false, Bool.false_and]
theorem fitsF_else {r : Rul} {m : Mod} (h1 : (r.name != m.name) = false) (h2 : (r.arity != (m.args.length : Int)) = false) : fitsF r m = r.guards.all (fun g => decide (0 ≤ worthF g m.args)) := by
  have h3 : (r.name == m.name) = true := by simpa using h1
  have h4 : (r.arity == (m.args.length : Int)) = true := by simpa using h2
  unfold fitsF; rw [h3, h4]; rfl
theorem guardOk {r : Rul} {m : Mod} (h : coreR r = true) (ha : (r.arity != (m.args.length : Int)) = false) (hm : m.args.all argOk = true ∧ m.args.length ≤ 4) {g : Frm} (hg : g ∈ r.guards) : SumOk g m.args := by
  have h4 : r.arity = (m.args.length : Int) := by simpa using ha
  have := (fineR_guards h).2.2.1 g hg
  rw [h4, Int.toNat_natCast] at this
  exact sumOk this hm.1 hm.2
theorem fine_args {m : Mod} (h : fineF m = true) : m.args.all argOk = true ∧ m.args.length ≤ 4 := by
  unfold fineF shapeOk at h
  simp only [Bool.and_eq_true, Bool.or_eq_true, beq_iff_eq, decide_eq_true_eq] at h
  refine ⟨h.1.2, ?_⟩
  rcases h.2 with h | h
  · omega
  · exact h.1.1
set_option maxRecDepth 100000 in
set_option maxHeartbeats 2000000 in
theorem fits_calls (r : Rul) (A : Option Addr) (c : Nat) (A2 : Option Addr) (c2 : Nat) (A' : Option Addr) (c' : Nat) (m : Mod) (w : World) (h : RulAt r (Old w) w A c A2 c2) (h' : SlAt (pI .i64) (Old w) w A' c' m.args) (hs : coreR r = true) (hm : m.args.all argOk = true ∧ m.args.length ≤ 4) :
    Calls Tryd.prog 34 #[.agg #[.int .u8 r.name, .int .i64 r.arity, .int .u8 r.left, .int .u8 r.right, .slice A r.guards.length c, .int .i64 r.weight, .slice A2 r.out.length c2], .agg #[.int .u8 m.name, .slice A' m.args.length c']] w (BoolPost (fitsF r m) w) := by
  have hmx := h.sg.lenle
  have hmx' := h'.lenle
  obtain ⟨W0, hW0⟩ : ∃ W0, W0 = (w.alloc (.cells #[.int .u8 r.name, .int .i64 r.arity, .int .u8 r.left, .int .u8 r.right, .slice A r.guards.length c, .int .i64 r.weight, .slice A2 r.out.length c2] 60)).alloc (.cells #[.int .u8 m.name, .slice A' m.args.length c'] 49) := ⟨_, rfl⟩
  have hb0 : Below w.heap.size w W0 := by rw [hW0]; exact ((Below.refl _ _).alloc (Nat.le_refl _) _).alloc (by simp) _
  have hz0 : w.heap.size + 2 ≤ W0.heap.size := by rw [hW0]; simp
  have hbr0 : Blk W0 w.heap.size 60 #[.int .u8 r.name, .int .i64 r.arity, .int .u8 r.left, .int .u8 r.right, .slice A r.guards.length c, .int .i64 r.weight, .slice A2 r.out.length c2] := by rw [hW0]; exact (Blk.new _ _ _).alloc _
  have hbl0 : Blk W0 (w.heap.size + 1) 49 #[.int .u8 m.name, .slice A' m.args.length c'] := by
    rw [hW0]
    have := Blk.new (w.alloc (.cells #[.int .u8 r.name, .int .i64 r.arity, .int .u8 r.left, .int .u8 r.right, .slice A r.guards.length c, .int .i64 r.weight, .slice A2 r.out.length c2] 60)) 49 #[.int .u8 m.name, .slice A' m.args.length c']
    rwa [show (w.alloc (.cells #[.int .u8 r.name, .int .i64 r.arity, .int .u8 r.left, .int .u8 r.right, .slice A r.guards.length c, .int .i64 r.weight, .slice A2 r.out.length c2] 60)).heap.size = w.heap.size + 1 from by simp] at this
  have H := Lib.hid h; clear h
  have H' := Lib.hid h'; clear h'
  have Hb0 := Lib.hid hb0; clear hb0
  have Hbl0 := Lib.hid hbl0; clear hbl0
  have Hbr0 := Lib.hid hbr0; clear hbr0
  have Hm := Lib.hid hm; clear hm
  have Hs := Lib.hid hs; clear hs
  have HW0 := Lib.hid hW0; clear hW0
  cases hn1 : (r.name != m.name)
  · cases hn2 : (r.arity != (m.args.length : Int))
    · have hff := fitsF_else hn1 hn2
      have hgo := fun (x : Frm) (hx : x ∈ r.guards) => guardOk Hs.out hn2 Hm.out hx
      have Hff := Lib.hid hff; clear hff
      have Hgo := Lib.hid hgo; clear hgo
      go_enter Tryd.func34, Tryd.ntmps34
      go_wp2
      rw [← HW0.out]
      clear hn1 hn2
      go_loopw [5] (fun i wr => ∃ j : Nat, j ≤ r.guards.length ∧ i = .int .i64 j ∧ Hid (Below W0.heap.size W0 wr) ∧ W0.heap.size ≤ wr.heap.size ∧ Hid (fitsF r m = (r.guards.drop j).all (fun g => decide (0 ≤ worthF g m.args)))) (fun i _ => r.guards.length - (intOf i).toNat)
      case atStart => exact ⟨0, Nat.zero_le _, rfl, Below.refl _ _, Nat.le_refl _, Hff⟩
      case round =>
        obtain ⟨j, hj, rfl, hb, hsz, hall⟩ := hrel
        obtain ⟨wo, rfl⟩ : ∃ wo : World, wo = wr := ⟨_, rfl⟩
        have hbwo : Below w.heap.size w wo := Hb0.out.trans (hb.out.mono (by omega))
        have hbro := Hbr0.out.same (hb.out.block _ (by omega))
        have hblo := Hbl0.out.same (hb.out.block _ (by omega))
        obtain ⟨x0, x1, x2, x3, x4, x5, x6⟩ := hbro.rul
        have y1 := hblo.cell 1
        simp only [List.getElem?_toArray, List.getElem?_cons_succ, List.getElem?_cons_zero] at y1
        clear x0 x1 x2 x3 x5 x6
        have Hbwo := Lib.hid hbwo; clear hbwo
        have Hbro := Lib.hid hbro; clear hbro
        have Hblo := Lib.hid hblo; clear hblo
        by_cases hlt : j < r.guards.length
        · obtain ⟨b3, o3, A3, c3, f, hdf, rfl, hob3, hs0, hs1, hsc, hsa, hsl⟩ := (H.out.sg.below Hbwo.out).getFrm hlt
          have hok := Hgo.out f (mem_of_drop hdf.out)
          have hbd := worth_bd hok
          have hasp := H'.out.below Hbwo.out
          have hk0 : (0 : Int) ≤ (j : Int) := Int.natCast_nonneg _
          have hk1 : (j : Int) < (r.guards.length : Int) := by omega
          have kx0 := cell_regrown hs0
          have kx1 := cell_regrown hs1
          have ky1 := cell_regrown y1
          have kz4 := cell_regrown x4
          have hcall : ∀ (q : Nat) (os : Array Obj), Calls Tryd.prog 56 #[.agg #[.int .i64 f.const, .slice A3 f.coefs.length c3], .slice A' m.args.length c'] (grow (redrawn wo q) os) fun e w'' => e = .returned (.int .i64 (worthF f m.args)) ∧ ∃ p : Regrown, w'' = grow (redrawn wo p.d) p.os := fun q os =>
            have hg := below_regrown wo q os
            Calls.regrown_of (refWorth_calls (F := Old w) A3 c3 f A' c' m.args _ (hsa.out.keep fun q hq => hg.block q (by have : q < w.heap.size := hq; omega)) (hasp.keep fun q hq => hg.block q (by have : q < w.heap.size := hq; omega)) (fun q hq => by have : q < w.heap.size := hq; have := hg.size; omega) hok)
          obtain ⟨v, hvv⟩ : ∃ v, worthF f m.args = v := ⟨_, rfl⟩
          rw [hvv] at hbd hcall
          have Hcall := Lib.hid hcall; clear hcall
          have Hok := Lib.hid hok; clear hok
          have Hasp := Lib.hid hasp; clear hasp
          have Hvv := Lib.hid hvv; clear hvv
          clear hs0 hs1 y1
          go_wp2
          clear x4
          refine wp_region_quiet_below (by kernel_rfl) (by kernel_rfl) ?_
          repeat (quiet_step (exact Hcall.out _ _))
          refine wpQuiet_nil ?_
          intro _ hw'
          obtain ⟨⟨dq, osq⟩, hw''⟩ := hw'
          subst hw''
          have hbr := below_regrown wo dq osq
          have hzr := hbr.size
          have hbw : Below w.heap.size w (grow (redrawn wo dq) osq) := Hbwo.out.trans (hbr.mono (by omega))
          have hb1 : Below W0.heap.size W0 (grow (redrawn wo dq) osq) := hb.out.trans (hbr.mono hsz)
          have Hbw := Lib.hid hbw; clear hbw
          have Hb1 := Lib.hid hb1; clear hb1
          clear hbr kx0 kx1 ky1 kz4
          by_cases hv : v < 0
          · go_wp2
            go_ret
            exact ⟨ret_bool (by rw [hall.out, hdf.out, List.all_cons, Hvv.out, decide_eq_false (by omega)]; rfl), Hbw.out⟩
          · go_wp2
            go_roundw
            case rel =>
              refine ⟨j + 1, by omega, by go_num, Hb1, by omega, ?_⟩
              unfold Hid; rw [hall.out, hdf.out, List.all_cons, Hvv.out, decide_eq_true (by omega)]; rfl
            case measure => simp [intOf]; omega
        · go_wp2
          go_ret
          exact ⟨ret_bool (by rw [hall.out, drop_end hlt]; rfl), Hbwo.out⟩
    · have hno := fitsF_arity hn2
      have Hno := Lib.hid hno; clear hno
      go_enter Tryd.func34, Tryd.ntmps34
      go_wp2
      go_ret
      exact ⟨by rw [Hno.out]; rfl, by rw [← HW0.out]; exact Hb0.out⟩
  · have hno := fitsF_name hn1
    have Hno := Lib.hid hno; clear hno
    go_enter Tryd.func34, Tryd.ntmps34
    go_wp2
    go_ret
    exact ⟨by rw [Hno.out]; rfl, by rw [← HW0.out]; exact Hb0.out⟩
end Go.Proofs.YtlipmagkplbkdaaDoor

/-! Rp -/
namespace Go.Proofs.YtlipmagkplbkdaaDoor
open Go.RowKit
def outF (args : List Int) (s : Shp) : Mod × Bool := (⟨s.name, s.args.map fun f => worthF f args⟩, s.args.all fun f => argOk (worthF f args))
theorem checkF_iff {w : List Mod} : checkF w = 0 ↔ w.length ≤ 2000 ∧ w.all fineF = true ∧ scan 0 w = some 0 := by
  unfold checkF
  by_cases h1 : 2000 < w.length
  · rw [if_pos h1]; constructor
    · intro h; cases h
    · rintro ⟨h, _⟩; omega
  · rw [if_neg h1]
    cases h2 : w.all fineF
    · simp
    · rw [if_neg (by decide)]
      cases h3 : scan 0 w with
      | none => simp
      | some n =>
        cases n with
        | zero => simp; omega
        | succ n => simp
theorem core_out {r : Rul} (h : coreR r = true) : checkF (r.out.map fun s => ⟨s.name, List.replicate s.args.length 0⟩) = 0 ∧ r.name ≠ 91 ∧ r.name ≠ 93 := by
  unfold coreR at h
  simp only [Bool.and_eq_true, decide_eq_true_eq, beq_iff_eq, bne_iff_ne, ne_eq] at h
  exact ⟨h.2, h.1.1.1.1.1.1.2, h.1.1.1.1.1.2⟩
theorem checkF_fine {ms : List Mod} (h : checkF ms = 0) : ∀ m ∈ ms, fineF m = true := List.all_eq_true.1 (checkF_iff.1 h).2.1
def madeOk (r : Rul) (m : Mod) : Bool := r.out.all fun s => (outF m.args s).2
def madeL (r : Rul) (m : Mod) : List Mod := r.out.map fun s => (outF m.args s).1
end Go.Proofs.YtlipmagkplbkdaaDoor
