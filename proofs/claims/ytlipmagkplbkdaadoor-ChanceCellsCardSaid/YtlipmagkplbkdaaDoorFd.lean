/-
  Layer 7: the walk of the reference's Fine.
-/
import Derived.Test.YtlipmagkplbkdaaDoorFc
import Derived.Test.YtlipmagkplbkdaaDoorWd
namespace Go.Proofs.YtlipmagkplbkdaaDoor
open Go.RowKit Go.Sort

theorem coreR_cases (r : Rul) : (coreR r = false ∧ ((letterB r.name = false) ∨ (letterB r.name = true ∧ (r.name == 91) = true) ∨ (letterB r.name = true ∧ (r.name == 91) = false ∧ (r.name == 93) = true) ∨
      (letterB r.name = true ∧ (r.name == 91) = false ∧ (r.name == 93) = false ∧ r.arity < 0) ∨ (letterB r.name = true ∧ (r.name == 91) = false ∧ (r.name == 93) = false ∧ ¬ r.arity < 0 ∧ 4 < r.arity))) ∨
    (letterB r.name = true ∧ (r.name == 91) = false ∧ (r.name == 93) = false ∧ ¬ r.arity < 0 ∧ ¬ 4 < r.arity ∧
      coreR r = (r.guards.all (fun f => formF f r.arity.toNat) && (r.out.all (fun s => s.args.all (fun f => formF f r.arity.toNat)) && checkF (r.out.map fun s => ⟨s.name, List.replicate s.args.length 0⟩) == 0))) := by
  cases hl : letterB r.name
  · left; exact ⟨by unfold coreR; simp [hl], .inl rfl⟩
  by_cases h3 : r.name = 91
  · left; exact ⟨by unfold coreR; simp [h3], .inr (.inl ⟨rfl, by simp [h3]⟩)⟩
  by_cases h4 : r.name = 93
  · left; exact ⟨by unfold coreR; simp [h4], .inr (.inr (.inl ⟨rfl, by simp [h3], by simp [h4]⟩))⟩
  by_cases h1 : r.arity < 0
  · left; exact ⟨by unfold coreR; simp; omega, .inr (.inr (.inr (.inl ⟨rfl, by simp [h3], by simp [h4], h1⟩)))⟩
  by_cases h2 : 4 < r.arity
  · left; exact ⟨by unfold coreR; simp; omega, .inr (.inr (.inr (.inr ⟨rfl, by simp [h3], by simp [h4], h1, h2⟩)))⟩
  right
  refine ⟨rfl, by simp [h3], by simp [h4], h1, h2, ?_⟩
  unfold coreR
  simp only [hl, show (r.name != 91) = true by simp [h3], show (r.name != 93) = true by simp [h4], show decide (0 ≤ r.arity) = true by simp; omega, show decide (r.arity ≤ 4) = true by simp; omega, Bool.true_and, Bool.and_true, Bool.and_assoc]
theorem checkF_bad {ms : List Mod} {m : Mod} (hm : m ∈ ms) (hf : fineF m = false) (hl : ms.length ≤ 2000) : checkF ms = 8 := by
  unfold checkF
  rw [if_neg (by omega), if_pos]
  rw [List.all_eq_false]
  exact ⟨m, hm, by simp [hf]⟩

/-- what 'm := Module(name, make(..))' leaves: the box of the shape, the zeros and the box of the module, in either order -/
structure MadeM (wp W : World) (nm : Int) (n : Nat) (sh : Array Value) (gz gm : Nat) : Prop where
  bel : Below wp.heap.size wp W
  sz : wp.heap.size + 3 ≤ W.heap.size
  bs : Blk W wp.heap.size 72 sh
  bm : Blk W gm 49 #[.int .u8 nm, .slice (some ⟨gz, 0, none⟩) n n]
  zs : SlAt (pI .i64) (fun q => q = gz) W (some ⟨gz, 0, none⟩) n (List.replicate n 0)
  gt : wp.heap.size < gz ∧ gz < W.heap.size ∧ wp.heap.size < gm ∧ gm < W.heap.size
theorem madeM1 (wp : World) (nm : Int) (n : Nat) (hn : n ≤ 1000) (sh Z : Array Value) (hZ : madeCells #[Value.int .i64 0] n = Z) :
    MadeM wp (((wp.alloc (.cells sh 72)).alloc (.cells Z 3)).alloc (.cells #[.int .u8 nm, .slice (some ⟨wp.heap.size + 1, 0, none⟩) n n] 49)).drew nm n sh (wp.heap.size + 1) (wp.heap.size + 1 + 1) := by
  subst hZ
  have h1 := Blk.new (wp.alloc (.cells sh 72)) 3 (madeCells #[Value.int .i64 0] n)
  have h2 := Blk.new ((wp.alloc (.cells sh 72)).alloc (.cells (madeCells #[Value.int .i64 0] n) 3)) 49 #[.int .u8 nm, .slice (some ⟨wp.heap.size + 1, 0, none⟩) n n]
  rw [show (wp.alloc (.cells sh 72)).heap.size = wp.heap.size + 1 from by simp] at h1
  rw [show ((wp.alloc (.cells sh 72)).alloc (.cells (madeCells #[Value.int .i64 0] n) 3)).heap.size = wp.heap.size + 1 + 1 from by simp] at h2
  exact ⟨below_drew ((((Below.refl _ _).alloc (Nat.le_refl _) _).alloc (by simp) _).alloc (by simp; omega) _), by simp, ((Blk.new _ _ _).alloc _).alloc _, h2, (zeros_sl (F := fun q => q = wp.heap.size + 1) (h1.alloc _) rfl (by unfold maxLen; omega)).keep fun _ _ => rfl, by simp; omega⟩
theorem madeM2 (wp : World) (nm : Int) (n : Nat) (hn : n ≤ 1000) (sh Z : Array Value) (hZ : madeCells #[Value.int .i64 0] n = Z) :
    MadeM wp (((wp.alloc (.cells sh 72)).alloc (.cells #[.int .u8 nm, .slice (some ⟨wp.heap.size + 1 + 1, 0, none⟩) n n] 49)).alloc (.cells Z 3)).drew nm n sh (wp.heap.size + 1 + 1) (wp.heap.size + 1) := by
  subst hZ
  have h1 := Blk.new (wp.alloc (.cells sh 72)) 49 #[.int .u8 nm, .slice (some ⟨wp.heap.size + 1 + 1, 0, none⟩) n n]
  have h2 := Blk.new ((wp.alloc (.cells sh 72)).alloc (.cells #[.int .u8 nm, .slice (some ⟨wp.heap.size + 1 + 1, 0, none⟩) n n] 49)) 3 (madeCells #[Value.int .i64 0] n)
  rw [show (wp.alloc (.cells sh 72)).heap.size = wp.heap.size + 1 from by simp] at h1
  rw [show ((wp.alloc (.cells sh 72)).alloc (.cells #[.int .u8 nm, .slice (some ⟨wp.heap.size + 1 + 1, 0, none⟩) n n] 49)).heap.size = wp.heap.size + 1 + 1 from by simp] at h2
  exact ⟨below_drew ((((Below.refl _ _).alloc (Nat.le_refl _) _).alloc (by simp) _).alloc (by simp; omega) _), by simp, ((Blk.new _ _ _).alloc _).alloc _, h1.alloc _, (zeros_sl (F := fun q => q = wp.heap.size + 1 + 1) h2 rfl (by unfold maxLen; omega)).keep fun _ _ => rfl, by simp; omega⟩

set_option maxRecDepth 100000 in
set_option maxHeartbeats 2000000 in
theorem refRFine_calls (r : Rul) (A : Option Addr) (c : Nat) (A' : Option Addr) (c' : Nat) (w : World) (h : RulAt r (Old w) w A c A' c') (hg10 : r.guards.length ≤ 10) (ho30 : r.out.length ≤ 30) (ha10 : ∀ s ∈ r.out, s.args.length ≤ 10) :
    Calls Tryd.prog 51 #[.agg #[.int .u8 r.name, .int .i64 r.arity, .int .u8 r.left, .int .u8 r.right, .slice A r.guards.length c, .int .i64 r.weight, .slice A' r.out.length c']] w (BoolPost (coreR r) w) := by
  have hcase := coreR_cases r
  have hn := h.fn
  have hai := h.fa.i64
  have hbx : Blk (w.alloc (.cells #[.int .u8 r.name, .int .i64 r.arity, .int .u8 r.left, .int .u8 r.right, .slice A r.guards.length c, .int .i64 r.weight, .slice A' r.out.length c'] 60)) w.heap.size 60 #[.int .u8 r.name, .int .i64 r.arity, .int .u8 r.left, .int .u8 r.right, .slice A r.guards.length c, .int .i64 r.weight, .slice A' r.out.length c'] := Blk.new _ _ _
  have hb0 : Below w.heap.size w (w.alloc (.cells #[.int .u8 r.name, .int .i64 r.arity, .int .u8 r.left, .int .u8 r.right, .slice A r.guards.length c, .int .i64 r.weight, .slice A' r.out.length c'] 60)) := (Below.refl _ _).alloc (Nat.le_refl _) _
  have hz0 : (w.alloc (.cells #[.int .u8 r.name, .int .i64 r.arity, .int .u8 r.left, .int .u8 r.right, .slice A r.guards.length c, .int .i64 r.weight, .slice A' r.out.length c'] 60)).heap.size = w.heap.size + 1 := by simp
  have H := Lib.hid h; clear h
  have Ha10 := Lib.hid ha10; clear ha10
  have Hbx := Lib.hid hbx; clear hbx
  have Hb0 := Lib.hid hb0; clear hb0
  have Hz0 := Lib.hid hz0; clear hz0
  rcases hcase with ⟨hno, hc⟩ | ⟨hl, h3, h4, h1, h2, hyes⟩
  · have Hno := Lib.hid hno; clear hno
    go_enter Tryd.func51, Tryd.ntmps51
    rcases hc with hl | ⟨hl, h3⟩ | ⟨hl, h3, h4⟩ | ⟨hl, h3, h4, h1⟩ | ⟨hl, h3, h4, h1, h2⟩
    all_goals
      go_wp2_with (go_at_call 55; refine (letter_calls _ _).mono ?_; rintro e w' ⟨rfl, rfl⟩)
      go_ret
      exact ⟨by rw [Hno.out]; rfl, Hb0.out⟩
  · have hr4 : 0 ≤ r.arity ∧ r.arity ≤ 4 := by omega
    have Hyes := Lib.hid hyes; clear hyes
    go_enter Tryd.func51, Tryd.ntmps51
    go_wp2_with (go_at_call 55; refine (letter_calls _ _).mono ?_; rintro e w' ⟨rfl, rfl⟩)
    obtain ⟨W0, hW0⟩ : ∃ W0, W0 = w.alloc (.cells #[.int .u8 r.name, .int .i64 r.arity, .int .u8 r.left, .int .u8 r.right, .slice A r.guards.length c, .int .i64 r.weight, .slice A' r.out.length c'] 60) := ⟨_, rfl⟩
    rw [← hW0] at Hbx Hb0 Hz0 ⊢
    have HW0 := Lib.hid hW0; clear hW0
    have hz0' : w.heap.size + 1 ≤ W0.heap.size := by have := Hz0.out; omega
    go_loopw [3] (fun i wr => ∃ k : Nat, k ≤ r.guards.length ∧ i = .int .i64 k ∧ Hid (Below (w.heap.size + 1) W0 wr) ∧ w.heap.size + 1 ≤ wr.heap.size ∧ Hid (r.guards.all (fun f => formF f r.arity.toNat) = (r.guards.drop k).all (fun f => formF f r.arity.toNat))) (fun i _ => r.guards.length - (intOf i).toNat)
    case atStart => exact ⟨0, Nat.zero_le _, rfl, Below.refl _ _, hz0', rfl⟩
    case round =>
      obtain ⟨k, hk, rfl, hb, hsz, hall⟩ := hrel
      obtain ⟨wo, rfl⟩ : ∃ wo : World, wo = wr := ⟨_, rfl⟩
      have hblo := Hbx.out.same (hb.out.block _ (Nat.lt_succ_self _))
      have hbwo : Below w.heap.size w wo := Hb0.out.trans (hb.out.mono (Nat.le_succ _))
      have Hbwo := Lib.hid hbwo; clear hbwo
      by_cases hlt : k < r.guards.length
      · obtain ⟨b, o, As, cs, f, hd, rfl, hob, hs0, hs1, hsc, hsa, hsl⟩ := (H.out.sg.below Hbwo.out).getFrm hlt
        obtain ⟨z0, z1, z2, z3, z4, z5, z6⟩ := hblo.rul
        have kx0 := cell_regrown hs0
        have kx1 := cell_regrown hs1
        have kz1 := cell_regrown z1
        have kz4 := cell_regrown z4
        have hk0 : (0 : Int) ≤ (k : Int) := Int.natCast_nonneg _
        have hk1 : (k : Int) < (r.guards.length : Int) := by omega
        have hcall : ∀ (q : Nat) (os : Array Obj), Calls Tryd.prog 66 #[.agg #[.int .i64 f.const, .slice As f.coefs.length cs], .int .i64 r.arity] (grow (redrawn wo q) os) fun e w'' => e = .returned (.bool (formF f r.arity.toNat)) ∧ ∃ p : Regrown, w'' = grow (redrawn wo p.d) p.os := fun q os =>
          have hg := below_regrown wo q os
          Calls.regrown_of (refForm_int As cs f r.arity _ (hsa.out.keep fun k hk => hg.block k (by have : k < w.heap.size := hk; omega)) (fun k hk => by have : k < w.heap.size := hk; have := hg.size; omega) hsc hr4)
        have Hcall := Lib.hid hcall; clear hcall
        have Hblo := Lib.hid hblo; clear hblo
        clear z0 z1 z2 z3 z5 z6 hs0 hs1
        generalize hmn : formF f r.arity.toNat = t at Hcall
        have Hmn := Lib.hid hmn; clear hmn
        go_wp2
        refine wp_region_quiet_below (by kernel_rfl) (by kernel_rfl) ?_
        repeat (quiet_step (exact Hcall.out _ _))
        refine wpQuiet_nil ?_
        intro _ hw'
        obtain ⟨⟨dq, osq⟩, hw''⟩ := hw'
        subst hw''
        have hbr := below_regrown wo dq osq
        have hbw : Below w.heap.size w (grow (redrawn wo dq) osq) := Hbwo.out.trans (hbr.mono (by omega))
        have hb1 : Below (w.heap.size + 1) W0 (grow (redrawn wo dq) osq) := hb.out.trans (hbr.mono hsz)
        have hz1 := hbr.size
        have Hbw := Lib.hid hbw; clear hbw
        have Hb1 := Lib.hid hb1; clear hb1
        clear hbr kx0 kx1 kz1 kz4
        cases t
        · go_wp2
          go_ret
          refine ⟨ret_bool ?_, Hbw.out⟩
          rw [Hyes.out, hall.out, hd.out, List.all_cons, Hmn.out]; rfl
        · go_wp2
          go_roundw
          case rel =>
            refine ⟨k + 1, by omega, by go_num, Hb1, by omega, ?_⟩
            unfold Hid; rw [hall.out, hd.out, List.all_cons, Hmn.out]; rfl
          case measure => simp [intOf]; omega
      · have hgs : coreR r = (r.out.all (fun s => s.args.all (fun f => formF f r.arity.toNat)) && checkF (modsK r r.out.length) == 0) := by
          rw [Hyes.out, hall.out, drop_end hlt]; unfold modsK; rw [List.take_length]; rfl
        obtain ⟨z0, z1, z2, z3, z4, z5, z6⟩ := hblo.rul
        have Hgs := Lib.hid hgs; clear hgs
        have Hblo := Lib.hid hblo; clear hblo
        clear hall z0 z1 z2 z3 z5
        go_wp2
        clear hlt z4 z6
        go_loopw [5, 4] (fun i ws wr => ∃ k : Nat, k ≤ r.out.length ∧ i = .int .i64 k ∧ Hid (Below (w.heap.size + 1) wo wr) ∧ w.heap.size + 1 ≤ wr.heap.size ∧ Hid (r.out.all (fun s => s.args.all (fun f => formF f r.arity.toNat)) = (r.out.drop k).all (fun s => s.args.all (fun f => formF f r.arity.toNat))) ∧
          ∃ Aw cw, ws = .slice Aw k cw ∧ Hid (Own pMod 49 (w.heap.size + 1) (w.heap.size < ·) wr ws (modsK r k))) (fun i _ _ => r.out.length - (intOf i).toNat)
        case atStart => exact ⟨0, Nat.zero_le _, rfl, Below.refl _ _, hsz, rfl, none, 0, rfl, Own.nil⟩
        case round =>
          obtain ⟨k2, hk2, rfl, hb2, hsz2, hall2, Aw, cw, rfl, how⟩ := hrel
          obtain ⟨wp, rfl⟩ : ∃ wp : World, wp = wr := ⟨_, rfl⟩
          have hblp := Hblo.out.same (hb2.out.block _ (Nat.lt_succ_self _))
          have hbwp : Below w.heap.size w wp := Hbwo.out.trans (hb2.out.mono (Nat.le_succ _))
          obtain ⟨z0, z1, z2, z3, z4, z5, z6⟩ := hblp.rul
          clear z0 z2 z3 z4 z5
          have Hbwp := Lib.hid hbwp; clear hbwp
          have Hblp := Lib.hid hblp; clear hblp
          by_cases hlt : k2 < r.out.length
          · obtain ⟨b, o, As, cs, s, hd, rfl, hob, hs0, hs1, hs8, hsa, hsl⟩ := (H.out.so.below Hbwp.out).getShp hlt
            have hob' : b < wp.heap.size := by have : b < w.heap.size := hob; omega
            have hwl : w.heap.size < wp.heap.size := by omega
            have hk0 : (0 : Int) ≤ (k2 : Int) := Int.natCast_nonneg _
            have hk1 : (k2 : Int) < (r.out.length : Int) := by omega
            have hal : s.args.length ≤ 10 := Ha10.out _ (mem_of_drop hd.out)
            obtain ⟨Z, hZ⟩ : ∃ Z, madeCells #[Value.int .i64 0] s.args.length = Z := ⟨_, rfl⟩
            have hmk := fun (wx : World) => run_make_rowN (P := Tryd.prog) (t := 47) (e := 3) Tryd.underlying47 info_intC s.args.length (by omega) (by omega) wx
            rw [show madeCells (Value.int .i64 0).cells (s.args.length * 1) = Z from by rw [Nat.mul_one]; exact hZ] at hmk
            have hmm1 := madeM1 wp s.name s.args.length (by omega) #[.int .u8 s.name, .slice As s.args.length cs] Z hZ
            have hmm2 := madeM2 wp s.name s.args.length (by omega) #[.int .u8 s.name, .slice As s.args.length cs] Z hZ
            have HZ := Lib.hid hZ; clear hZ
            have Hmm1 := Lib.hid hmm1; clear hmm1
            have Hmm2 := Lib.hid hmm2; clear hmm2
            go_wp2_with fail
            go_region_held3 (fun w' => w'.cell? ⟨wp.heap.size, 0, none⟩ = some (.int .u8 s.name) ∧ w'.cell? ⟨wp.heap.size, 1, none⟩ = some (.slice As s.args.length cs))
              (first | go_keep)
              (fail)
            all_goals go_wp2_with fail
            have hmm1 := Hmm1.out
            clear Hmm1 Hmm2
            generalize (((wp.alloc (.cells #[.int .u8 s.name, .slice As s.args.length cs] 72)).alloc (.cells Z 3)).alloc (.cells #[.int .u8 s.name, .slice (some ⟨wp.heap.size + 1, 0, none⟩) s.args.length s.args.length] 49)).drew = W3 at hmm1 ⊢
            generalize wp.heap.size + 1 + 1 = gm at hmm1 ⊢
            generalize wp.heap.size + 1 = gz at hmm1 ⊢
            rotate_left
            have hmm1 := Hmm2.out
            clear Hmm1 Hmm2
            generalize (((wp.alloc (.cells #[.int .u8 s.name, .slice As s.args.length cs] 72)).alloc (.cells #[.int .u8 s.name, .slice (some ⟨wp.heap.size + 1 + 1, 0, none⟩) s.args.length s.args.length] 49)).alloc (.cells Z 3)).drew = W3 at hmm1 ⊢
            generalize wp.heap.size + 1 + 1 = gz at hmm1 ⊢
            generalize wp.heap.size + 1 = gm at hmm1 ⊢
            all_goals
              obtain ⟨mbel, msz, mbs, mbm, mzs, mg1, mg2, mg3, mg4⟩ := hmm1
              have hcf := refFine_calls (some ⟨gz, 0, none⟩) s.args.length ⟨s.name, List.replicate s.args.length 0⟩ W3 mzs (fun k hk => by subst hk; exact mg2)
              simp only [List.length_replicate] at hcf
              have Hcf := Lib.hid hcf; clear hcf
              have Mbel := Lib.hid mbel; clear mbel
              have Mbs := Lib.hid mbs; clear mbs
              have Mbm := Lib.hid mbm; clear mbm
              have Mzs := Lib.hid mzs; clear mzs
              clear hmk hs0 hs1 z1 z6
              refine Hcf.out.mono ?_
              rintro e w5 ⟨rfl, hb5⟩
              have hz5 := hb5.size
              have hbp5 : Below wp.heap.size wp w5 := Mbel.out.trans (hb5.mono (by omega))
              have hbs5 := Mbs.out.same (hb5.block _ (by omega))
              have hbm5 := Mbm.out.same (hb5.block _ mg4)
              have hzs5 := Mzs.out.keep (w' := w5) fun q hq => hb5.block q (by subst hq; exact mg2)
              have Hbp5 := Lib.hid hbp5; clear hbp5
              have Hbs5 := Lib.hid hbs5; clear hbs5
              have Hbm5 := Lib.hid hbm5; clear hbm5
              have Hzs5 := Lib.hid hzs5; clear hzs5
              clear hb5
              cases hfm : fineF ⟨s.name, List.replicate s.args.length 0⟩
              · have hno : coreR r = false := by
                  rw [Hgs.out, checkF_bad (m := ⟨s.name, List.replicate s.args.length 0⟩) _ hfm (by unfold modsK; simp; omega)]
                  · simp
                  · unfold modsK; rw [List.take_length]; exact List.mem_map.2 ⟨s, mem_of_drop hd.out, rfl⟩
                have Hno := Lib.hid hno; clear hno
                go_wp2
                go_ret
                exact ⟨by rw [Hno.out]; rfl, Hbwp.out.trans (Hbp5.out.mono (by omega))⟩
              · clear hfm
                go_wp2
                go_loopw [8] (fun i wr => ∃ k3 : Nat, k3 ≤ s.args.length ∧ i = .int .i64 k3 ∧ Hid (Below w5.heap.size w5 wr) ∧ w5.heap.size ≤ wr.heap.size ∧ Hid (s.args.all (fun f => formF f r.arity.toNat) = (s.args.drop k3).all (fun f => formF f r.arity.toNat))) (fun i _ => s.args.length - (intOf i).toNat)
                case atStart => exact ⟨0, Nat.zero_le _, rfl, Below.refl _ _, Nat.le_refl _, rfl⟩
                case round =>
                  obtain ⟨k3, hk3, rfl, hb3, hsz3, hall3⟩ := hrel
                  obtain ⟨wq, rfl⟩ : ∃ wq : World, wq = wr := ⟨_, rfl⟩
                  have hbpq : Below wp.heap.size wp wq := Hbp5.out.trans (hb3.out.mono (by omega))
                  have hbsq := Hbs5.out.same (hb3.out.block _ (by omega))
                  have hblq := Hblp.out.same (hbpq.block _ hwl)
                  have y0 := hbsq.cell 0
                  have y1 := hbsq.cell 1
                  obtain ⟨x0, x1, x2, x3, x4, x5, x6⟩ := hblq.rul
                  clear x0 x2 x3 x4 x5
                  have Hbpq := Lib.hid hbpq; clear hbpq
                  have Hbsq := Lib.hid hbsq; clear hbsq
                  have Hblq := Lib.hid hblq; clear hblq
                  by_cases hlt3 : k3 < s.args.length
                  · obtain ⟨b4, o4, A4, c4, f, hd4, rfl, hob4, hf0, hf1, hfc, hfa, hfl⟩ := (hsa.out.keep fun q hq => Hbpq.out.block q (by have : q < w.heap.size := hq; omega)).getFrm hlt3
                    have ky1 := cell_regrown y1
                    have kx1 := cell_regrown x1
                    have kf0 := cell_regrown hf0
                    have kf1 := cell_regrown hf1
                    have hk30 : (0 : Int) ≤ (k3 : Int) := Int.natCast_nonneg _
                    have hk31 : (k3 : Int) < (s.args.length : Int) := by omega
                    have hcall : ∀ (q : Nat) (os : Array Obj), Calls Tryd.prog 66 #[.agg #[.int .i64 f.const, .slice A4 f.coefs.length c4], .int .i64 r.arity] (grow (redrawn wq q) os) fun e w'' => e = .returned (.bool (formF f r.arity.toNat)) ∧ ∃ p : Regrown, w'' = grow (redrawn wq p.d) p.os := fun q os =>
                      have hg := below_regrown wq q os
                      Calls.regrown_of (refForm_int A4 c4 f r.arity _ (hfa.out.keep fun k hk => hg.block k (by have : k < w.heap.size := hk; omega)) (fun k hk => by have : k < w.heap.size := hk; have := hg.size; omega) hfc hr4)
                    have Hcall := Lib.hid hcall; clear hcall
                    clear y0 x1 x6 hf0 hf1
                    generalize hmn : formF f r.arity.toNat = t at Hcall
                    have Hmn := Lib.hid hmn; clear hmn
                    go_wp2
                    refine wp_region_quiet_below (by kernel_rfl) (by kernel_rfl) ?_
                    repeat (quiet_step (exact Hcall.out _ _))
                    refine wpQuiet_nil ?_
                    intro _ hw'
                    obtain ⟨⟨dq, osq⟩, hw''⟩ := hw'
                    subst hw''
                    have hbr := below_regrown wq dq osq
                    have hzr := hbr.size
                    have hbp6 : Below wp.heap.size wp (grow (redrawn wq dq) osq) := Hbpq.out.trans (hbr.mono (by omega))
                    have Hbr := Lib.hid hbr; clear hbr
                    have Hbp6 := Lib.hid hbp6; clear hbp6
                    clear ky1 kx1 kf0 kf1
                    cases t
                    · have hno : coreR r = false := by
                        rw [Hgs.out, hall2.out, hd.out, List.all_cons, hall3.out, hd4.out, List.all_cons, Hmn.out]; rfl
                      have Hno := Lib.hid hno; clear hno
                      go_wp2
                      go_ret
                      exact ⟨by rw [Hno.out]; rfl, Hbwp.out.trans (Hbp6.out.mono (by omega))⟩
                    · go_wp2
                      go_roundw
                      case rel =>
                        refine ⟨k3 + 1, by omega, by go_num, hb3.out.trans (Hbr.out.mono hsz3), by omega, ?_⟩
                        unfold Hid; rw [hall3.out, hd4.out, List.all_cons, Hmn.out]; rfl
                      case measure => simp [intOf]; omega
                  · have hbmq := Hbm5.out.same (hb3.out.block _ (by omega))
                    have v0 := hbmq.cell 0
                    have v1 := hbmq.cell 1
                    have hzsq := Hzs5.out.keep (w' := wq) fun q hq => hb3.out.block q (by subst hq; omega)
                    have howq : Own pMod 49 (w.heap.size + 1) (w.heap.size < ·) wq (.slice Aw k2 cw) (modsK r k2) := how.out.later Hbpq.out
                    have hR : pMod.R (fun q => q = gz) wq [.int .u8 s.name, .slice (some ⟨gz, 0, none⟩) s.args.length s.args.length] ⟨s.name, List.replicate s.args.length 0⟩ :=
                      ⟨some ⟨gz, 0, none⟩, s.args.length, by simp, hs8, hzsq⟩
                    have hF : ∀ q, (q = gz) → w.heap.size < q ∧ q < wq.heap.size ∧ some q ≠ (Value.slice Aw k2 cw).ownBlock := fun q hq => by
                      subst hq
                      refine ⟨by omega, by omega, fun he => ?_⟩
                      have := how.out.lt _ he.symm
                      omega
                    have hlk : (modsK r k2).length + 1 = k2 + 1 := by unfold modsK; simp; omega
                    have hrk : Room (k2 + 1) := room_of (by omega)
                    have hbq : w.heap.size + 1 ≤ wq.heap.size := by omega
                    have Howq := Lib.hid howq; clear howq
                    have HR := Lib.hid hR; clear hR
                    have HF := Lib.hid hF; clear hF
                    have Hlk := Lib.hid hlk; clear hlk
                    have Hrk := Lib.hid hrk; clear hrk
                    clear y0
                    go_wp2_with ((with_reducible show wpList _ _ _ (Oper.mk (some 89) _ _ _ _ _ :: _) _ _); refine pushMod (xs := modsK r k2) (base := w.heap.size + 1) (G := (w.heap.size < ·)) 89 (.tmp 87) (.tmp 88) rfl rfl rfl rfl rfl (fun _ => rfl) (fun _ => rfl) Howq.out s.name (some ⟨gz, 0, none⟩) s.args.length s.args.length rfl ⟨s.name, List.replicate s.args.length 0⟩ (fun q => q = gz) HR.out HF.out (k2 + 1) Hlk.out Hrk.out hbq ?_; intro A6 c6 w6 hown6 hg6)
                    go_roundw
                    case rel =>
                      have hz6 := hg6.out.bel.size
                      refine ⟨k2 + 1, by omega, by go_num, (hb2.out.trans (Hbpq.out.mono hsz2)).trans hg6.out.bel, by omega, ?_, A6, c6, rfl, ?_⟩
                      · unfold Hid; rw [hall2.out, hd.out, List.all_cons, hall3.out, drop_end hlt3]; rfl
                      · have h2 : modsK r (k2 + 1) = modsK r k2 ++ [⟨s.name, List.replicate s.args.length 0⟩] := by unfold modsK; rw [take_of_drop hd.out, List.map_append]; rfl
                        unfold Hid; rw [h2]; exact hown6.out
                    case measure => simp [intOf]; omega
          · obtain rfl : k2 = r.out.length := by omega
            have ha : coreR r = (checkF (modsK r r.out.length) == 0) := by rw [Hgs.out, hall2.out, drop_end hlt]; rfl
            obtain ⟨hlw, hsw⟩ := how.out.sl'
            have hck : Calls Tryd.prog 38 #[.slice Aw r.out.length cw] wp (CheckPost (modsK r r.out.length) wp) := by
              have := refCheck_calls Aw cw (modsK r r.out.length) wp (hsw.wide fun q hq => hq.2)
              rwa [hlw] at this
            have Ha := Lib.hid ha; clear ha
            have Hck := Lib.hid hck; clear hck
            clear hlw hsw
            go_wp2_with fail
            refine Hck.out.mono ?_
            rintro e w5 ⟨rfl, hb5⟩
            have hbw5 : Below w.heap.size w w5 := Hbwp.out.trans (hb5.mono (by omega))
            have Hbw5 := Lib.hid hbw5; clear hbw5
            clear hb5
            go_wp2
            go_ret
            exact ⟨by rw [Ha.out]; rfl, Hbw5.out⟩

end Go.Proofs.YtlipmagkplbkdaaDoor
