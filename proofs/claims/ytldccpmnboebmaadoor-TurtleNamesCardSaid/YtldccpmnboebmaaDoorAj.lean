/-
  Layer 17: the walk of a turtle that takes a module.
-/
import Derived.Test.YtldccpmnboebmaaDoorAi
import Derived.Test.YtldccpmnboebmaaDoorVs
namespace Go.Proofs.YtldccpmnboebmaaDoor
open Go.RowKit Go.Sort
set_option linter.unusedVariables false

theorem turn_neg1 {c : Tur} (h : TurOk c) (n : Int) : turnF 0 1 (-n) c = turnF 1 0 n c := by unfold turnF; rw [rot_back1 n h.lt]
theorem turn_neg2 {c : Tur} (h : TurOk c) (n : Int) : turnF 2 0 (-n) c = turnF 0 2 n c := by unfold turnF; rw [rot_back2 n h.lt]
theorem fine_arg {m : Mod} (h : fineF m = true) : ∀ x ∈ m.args, -1000000000 ≤ x ∧ x ≤ 1000000000 := fun x hx => by
  unfold fineF at h
  simp only [Bool.and_eq_true] at h
  have := List.all_eq_true.1 h.1.2 x hx
  unfold argOk at this
  simpa using this
set_option maxRecDepth 100000 in
set_option maxHeartbeats 16000000 in
theorem take_calls (g : Nat) (b : Trop) (K L M : Value) (s : Sta) (m : Mod) (A : Option Addr) (c : Nat) {F : Nat → Prop} (w : World) (hp : PS g b K L M s w) (hok : StaOk s) (hb1 : 0 ≤ b.1 ∧ b.1 ≤ 5) (hb2 : 0 ≤ b.2 ∧ b.2 ≤ 1000000) (ha : SlAt (pI .i64) F w A c m.args) (hF : ∀ k, F k → k < w.heap.size) (hfine : fineF m = true) (hpop : m.name = 93 → s.stk ≠ []) (hr1 : s.stk.length ≤ 100000) (hr2 : s.lns.length ≤ 100000) (hr3 : s.mks.length ≤ 100000) (hu8 : Fits .u8 m.name) :
    Calls Tryd.prog 27 #[.pointer (some ⟨g, 0, none⟩), .agg #[.int .u8 m.name, .slice A m.args.length c]] w (TakePost g b s m w) := by
  obtain ⟨Ak, ck, rfl, sk⟩ := hp.ok.sl
  obtain ⟨Al, cl, rfl, sl⟩ := hp.ol.sl
  obtain ⟨Am, cm, rfl, sm⟩ := hp.om.sl
  obtain ⟨cur, stk, lns, mks⟩ := s
  obtain ⟨nm, args⟩ := m
  simp only at hpop hr1 hr2 hr3 ha sk sl sm hu8 ⊢
  have hcur : TurOk cur := hok.cur
  have hstk : ∀ c ∈ stk, TurOk c := hok.stk
  have hmx := ha.lenle
  have hg := hp.blk.lt
  have hal := fine_arg hfine
  simp only at hal
  obtain ⟨W, hW⟩ : ∃ W, W = w.alloc (.cells #[.int .u8 nm, .slice A args.length c] 44) := ⟨_, rfl⟩
  have bm : Blk W w.heap.size 44 #[.int .u8 nm, .slice A args.length c] := by rw [hW]; exact Blk.new _ _ _
  have ab : RowKit.Below w.heap.size w W := by rw [hW]; exact al1
  have pW := hp.later ab
  have tW : RowKit.Below g w W := ab.mono (Nat.le_of_lt hg)
  have hgW : g < W.heap.size := Nat.lt_of_lt_of_le hg ab.size
  have hne0 : w.heap.size ≠ g := by omega
  have y0 := bm.cell 0
  have y1 := bm.cell 1
  have hu8' := hu8.u8
  by_cases hlen : 0 < args.length
  case neg =>
    have hst : stepN ⟨nm, args⟩ = 1 := by
      have : args = [] := List.eq_nil_of_length_eq_zero (by omega)
      subst this
      rfl
    have hnb : -1000000000 ≤ (1 : Int) ∧ (1 : Int) ≤ 1000000000 := by decide
    have Bm := Lib.hid bm; clear bm
    have PW := Lib.hid pW; clear pW
    have TW := Lib.hid tW; clear tW
    have Hp := Lib.hid hp; clear hp
    have Hok := Lib.hid hok; clear hok
    have Ha := Lib.hid ha; clear ha
    have Hal := Lib.hid hal; clear hal
    have HF := Lib.hid hF; clear hF
    have Sk := Lib.hid sk; clear sk
    have Sl := Lib.hid sl; clear sl
    have Sm := Lib.hid sm; clear sm
    have Hst := Lib.hid hst; clear hst
    have Hnb := Lib.hid hnb; clear hnb
    have Hcur := Lib.hid hcur; clear hcur
    have Hstk := Lib.hid hstk; clear hstk
    have Hpop := Lib.hid hpop; clear hpop
    have Hfine := Lib.hid hfine; clear hfine
    have Ab := Lib.hid ab; clear ab
    go_enter Tryd.func27, Tryd.ntmps27
    go_upto_region 5 with fail
    (try rw [← hW])
    clear hW
    by_cases h70 : nm = 70
    case pos =>
      subst h70
      have htk : takeF b ⟨cur, stk, lns, mks⟩ ⟨70, args⟩ = (if inV (-1000000) (aheadF 1 cur.1).2 = true then
          (if 1000000 < cur.2 + 1 then none
           else some ⟨bendF b (aheadF 1 cur.1, cur.2 + 1), stk, lns ++ [⟨cur.1.2, (aheadF 1 cur.1).2, stk.length⟩], mks⟩)
         else none) := by unfold takeF; rw [if_pos rfl, Hst.out]
      have hrow := PW.out.blk
      unfold stRow at hrow
      have q1 := hrow.cell 1
      have q2 := hrow.cell 2
      have q3 := hrow.cell 3
      obtain ⟨w2, hw2⟩ : ∃ w2, w2 = W.alloc (.cells #[.int .i64 cur.1.2.1, .int .i64 cur.1.2.2.1, .int .i64 cur.1.2.2.2] 24) := ⟨_, rfl⟩
      obtain ⟨g5, hg5⟩ : ∃ k, k = W.heap.size := ⟨_, rfl⟩
      have n5 : Blk w2 g5 24 #[.int .i64 cur.1.2.1, .int .i64 cur.1.2.2.1, .int .i64 cur.1.2.2.2] := by rw [hw2, hg5]; exact Blk.new _ _ _
      have ab2 : RowKit.Below W.heap.size W w2 := by rw [hw2]; exact al1
      have p2 := PW.out.later ab2
      have t2 := TW.out.trans (ab2.mono (Nat.le_of_lt hgW))
      have hg5g : g < g5 := by omega
      clear ab2
      have ca := tAhead_calls g cur b (.slice Ak stk.length ck) (.slice Al lns.length cl) (.slice Am mks.length cm) 1 Hnb.out w2 Hcur.out p2.blk
      obtain ⟨A1, hA1⟩ : ∃ a, aheadF 1 cur.1 = a := ⟨_, rfl⟩
      rw [hA1] at ca htk
      have hA11 : A1.1 = cur.1.1 := by rw [← hA1]; rfl
      have Htk := Lib.hid htk; clear htk
      have Hrow := Lib.hid hrow; clear hrow
      have N5 := Lib.hid n5; clear n5
      have P2 := Lib.hid p2; clear p2
      have T2 := Lib.hid t2; clear t2
      have Ca := Lib.hid ca; clear ca
      have HA1 := Lib.hid hA1; clear hA1
      have HA11 := Lib.hid hA11; clear hA11
      go_upto_region 16 with fail
      rw [← hw2, ← hg5]
      clear hw2 hg5 q1 q2 q3 y0 y1
      go_wp2_with fail
      refine Ca.out.mono ?_
      rintro e w3 hmv
      unfold MovePost at hmv
      by_cases hv : inV (-1000000) A1.2 = true
      case neg =>
        rw [if_neg hv] at hmv
        obtain ⟨rfl, hbz⟩ := hmv
        have htk' := Htk.out
        rw [if_neg hv] at htk'
        have hbz' := T2.out.trans hbz
        have Htk' := Lib.hid htk'; clear htk'
        have Hbz' := Lib.hid hbz'; clear hbz'
        clear hv hbz
        go_wp2
        exact ⟨rfl, takePost_no Htk'.out Hbz'.out⟩
      case pos =>
        rw [if_pos hv] at hmv
        obtain ⟨rfl, u3⟩ := hmv
        have htk' := Htk.out
        rw [if_pos hv] at htk'
        have p3 := P2.out.upd u3
        have t3 := T2.out.trans (u3.bel g (Nat.le_refl _) (Nat.le_of_lt P2.out.blk.lt))
        have n5 := N5.out.same (u3.oth _ N5.out.lt (by omega))
        have hok3 : TurOk (A1, cur.2) := ⟨by show 0 ≤ A1.1; rw [HA11.out]; exact Hcur.out.lo, checkFr_of (by rw [HA11.out]; exact (checkFr_ok Hcur.out.ck).1) hv, Hcur.out.d0, Hcur.out.d1⟩
        have hrow := p3.blk
        unfold stRow at hrow
        simp only at hrow
        have hzg := hrow.lt
        have hz5 := n5.lt
        have x1 := hrow.cell 1
        have x2 := hrow.cell 2
        have x3 := hrow.cell 3
        have x7 := hrow.cell 7
        have x8 := hrow.cell 8
        have v0 := n5.cell 0
        have v1 := n5.cell 1
        have v2 := n5.cell 2
        have hfit1 : FitV cur.1.2 := fitV_in (checkFr_ok Hcur.out.ck).2
        have hfit2 : FitV A1.2 := fitV_in hv
        have Htk' := Lib.hid htk'; clear htk'
        have P3 := Lib.hid p3; clear p3
        have T3 := Lib.hid t3; clear t3
        have N5 := Lib.hid n5; clear n5
        have Hok3 := Lib.hid hok3; clear hok3
        have Hrow := Lib.hid hrow; clear hrow
        have Hfit1 := Lib.hid hfit1; clear hfit1
        have Hfit2 := Lib.hid hfit2; clear hfit2
        have Hv := Lib.hid hv; clear hv
        clear u3
        go_upto_region 17 with fail
        refine wp_region_float1 46 (.pointer (some ⟨g, 0, none⟩)) 20 [⟨⟨19, 65, 46, #[.int .i64 cur.1.2.1, .int .i64 cur.1.2.2.1, .int .i64 cur.1.2.2.2, .int .i64 A1.2.1, .int .i64 A1.2.2.1, .int .i64 A1.2.2.2, .int .i64 (stk.length : Int)]⟩, none, some (64, .agg #[.int .i64 cur.1.2.1, .int .i64 cur.1.2.2.1, .int .i64 cur.1.2.2.2, .int .i64 A1.2.1, .int .i64 A1.2.2.1, .int .i64 A1.2.2.2, .int .i64 (stk.length : Int)])⟩] (by kernel_rfl) rfl rfl (by kernel_rfl) (by kernel_rfl) (by kernel_rfl) (fun _ _ _ h => h) (fun _ => rfl) (by kernel_rfl) rfl (by
            intro x hx hn
            rw [List.mem_singleton] at hx
            subst hx
            cases hn) (by
            intro x hx v u h o ho ev hev w0
            rw [List.mem_singleton] at hx
            subst hx
            simp at h
            obtain ⟨rfl, rfl⟩ := h
            injection ho with ho
            subst ho
            exact run_build1 (E := pLn) (z := .agg #[.int .i64 0, .int .i64 0, .int .i64 0, .int .i64 0, .int .i64 0, .int .i64 0, .int .i64 0]) (bytes := 56) rfl Tryd.underlying33 (by kernel_rfl) rfl (by decide) (by decide) hev rfl w0) (by
            intro x hx j v row h
            rw [List.mem_singleton] at hx
            subst hx
            cases h) ?_
        apply Exists.intro
        refine And.intro ?walk (And.intro ?vals ?tail)
        case walk =>
          intro W' hW'
          have e1 := cell_regrown ((cell_keep (hW'.block g (by omega))).trans x1)
          have e2 := cell_regrown ((cell_keep (hW'.block g (by omega))).trans x2)
          have e3 := cell_regrown ((cell_keep (hW'.block g (by omega))).trans x3)
          have e7 := cell_regrown ((cell_keep (hW'.block g (by omega))).trans x7)
          have e8 := cell_regrown ((cell_keep (hW'.block g (by omega))).trans x8)
          have d0 := cell_regrown ((cell_keep (hW'.block g5 (by omega))).trans v0)
          have d1 := cell_regrown ((cell_keep (hW'.block g5 (by omega))).trans v1)
          have d2 := cell_regrown ((cell_keep (hW'.block g5 (by omega))).trans v2)
          simp only [List.setIfInBounds_toArray, List.set_cons_succ, List.set_cons_zero, virtQ, fltQ, nopT, List.take_succ_cons, List.take_zero, List.drop_succ_cons, List.drop_zero, List.map_cons, List.map_nil, List.cons_append, List.nil_append]
          iterate 24 (go_big_quiet_step (fail))
          exact wpQuiet_nil rfl
        case vals => exact ⟨trivial, rfl, by simp, trivial⟩
        case tail =>
          intro p w6 hbw2 hB2 hD2
          have hB8 := hB2 _ (List.mem_cons_self)
          simp only [Fb.fin] at hB8
          simp only [putsB, Fb.mk', List.drop_succ_cons, List.drop_zero]
          obtain ⟨gn, hgn⟩ : ∃ k, p 19 = k := ⟨_, rfl⟩
          rw [hgn] at hB8 ⊢
          clear hB2 hD2
          obtain ⟨nb, nz⟩ := hB8
          have abz : RowKit.Below w3.heap.size w3 w6 := hbw2
          have np := P3.out.later abz
          have nt := T3.out.trans (abz.mono (Nat.le_of_lt hzg))
          simp only [Act.put]
          have hox := np.ol
          have hba : g + 1 ≤ w6.heap.size := np.blk.lt
          have hbk : Blk w6 g 72 _ := np.blk
          have hgn' : some gn ≠ (Value.slice Al lns.length cl).ownBlock := fun he => by have := (P3.out.ol.lt _ he.symm).2; omega
          have hR : pLn.R (fun _ => False) w6 (Value.agg #[.int .i64 cur.1.2.1, .int .i64 cur.1.2.2.1, .int .i64 cur.1.2.2.2, .int .i64 A1.2.1, .int .i64 A1.2.2.1, .int .i64 A1.2.2.2, .int .i64 (stk.length : Int)]).cells.toList ⟨cur.1.2, A1.2, (stk.length : Int)⟩ := ⟨rfl, Hfit1.out, Hfit2.out, fits_i64 (by simp only; omega)⟩
          refine wpList_app1G (E := pLn) (xs := lns) (v := .slice Al lns.length cl) (base := g + 1) (G := fun _ => False) 33 46 (.agg #[.int .i64 0, .int .i64 0, .int .i64 0, .int .i64 0, .int .i64 0, .int .i64 0, .int .i64 0]) 56 (.tmp 51) (.tmp 65) gn rfl rfl Tryd.underlying33 (by kernel_rfl) rfl (by decide) rfl rfl hox (.agg #[.int .i64 cur.1.2.1, .int .i64 cur.1.2.2.1, .int .i64 cur.1.2.2.2, .int .i64 A1.2.1, .int .i64 A1.2.2.1, .int .i64 A1.2.2.2, .int .i64 (stk.length : Int)]) nb hgn' ⟨cur.1.2, A1.2, (stk.length : Int)⟩ (fun _ => False) hR (fun _ h => h.elim) (lns.length + 1) rfl (room_of (by omega)) (by decide) hba ?_
          intro A10 c10 w7 hown7 hg7
          have hbm7 : Blk w7 g 72 _ := hbk.same (hg7.out.oth _ hbk.lt (own_ne hox (Nat.le_refl _)))
          unfold stRow at hbm7
          have z8 := hbm7.cell 8
          have f8 := hbm7.free 8
          have p4 := np.pushL hown7.out hg7.out
          have t4 := (nt.trans (hg7.out.bel.mono (Nat.le_succ _))).setCell (p := ⟨g, 8, none⟩) (Nat.le_refl _) (.slice A10 (lns.length + 1) c10)
          obtain ⟨wz, hwz⟩ : ∃ W, W = w7.setCell ⟨g, 8, none⟩ (.slice A10 (lns.length + 1) c10) := ⟨_, rfl⟩
          rw [← hwz] at p4 t4
          have cb := tBent_calls g (A1, cur.2) b _ _ _ wz Hok3.out hb1 hb2 p4.blk
          simp only at cb
          have P4 := Lib.hid p4; clear p4
          have T4 := Lib.hid t4; clear t4
          have Cb := Lib.hid cb; clear cb
          have Np := Lib.hid np; clear np
          have Nt := Lib.hid nt; clear nt
          have Hbk := Lib.hid hbk; clear hbk
          have Hbm7 := Lib.hid hbm7; clear hbm7
          have Hox := Lib.hid hox; clear hox
          clear nb hgn' hR hbw2 abz x1 x2 x3 x7 x8 v0 v1 v2 hown7 hg7
          go_upto_region 18 with fail
          rw [← hwz]
          clear z8 f8 hwz
          go_wp2_with fail
          refine Cb.out.mono ?_
          rintro e w9 hmv
          unfold MovePost at hmv
          by_cases hd : cur.2 + 1 ≤ 1000000
          case neg =>
            rw [if_neg (by simpa using hd)] at hmv
            obtain ⟨rfl, hbz⟩ := hmv
            have htk2 := Htk'.out
            rw [if_pos (by omega)] at htk2
            have hbz' := T4.out.trans hbz
            have Htk2 := Lib.hid htk2; clear htk2
            have Hbz' := Lib.hid hbz'; clear hbz'
            clear hd hbz
            go_wp2
            exact ⟨rfl, takePost_no Htk2.out Hbz'.out⟩
          case pos =>
            rw [if_pos (by simpa using hd)] at hmv
            obtain ⟨rfl, u9⟩ := hmv
            have htk2 := Htk'.out
            rw [if_neg (by omega)] at htk2
            have p9 := P4.out.upd u9
            have t9 := T4.out.trans (u9.bel g (Nat.le_refl _) (Nat.le_of_lt P4.out.blk.lt))
            have Htk2 := Lib.hid htk2; clear htk2
            have P9 := Lib.hid p9; clear p9
            have T9 := Lib.hid t9; clear t9
            clear hd u9
            go_wp2
            go_end0
            exact takePost_yes Htk2.out P9.out T9.out
    case neg =>
    have e70 : (nm == 70) = false := by simpa using h70
    by_cases h102 : nm = 102
    case pos =>
      subst h102
      have htk : takeF b ⟨cur, stk, lns, mks⟩ ⟨102, args⟩ = (if inV (-1000000) (aheadF 1 cur.1).2 = true then some ⟨(aheadF 1 cur.1, cur.2), stk, lns, mks⟩ else none) := by unfold takeF; rw [if_neg (show ¬ (102 : Int) = 70 by decide), if_pos rfl, Hst.out]
      have ca := tAhead_calls g cur b (.slice Ak stk.length ck) (.slice Al lns.length cl) (.slice Am mks.length cm) 1 Hnb.out W Hcur.out PW.out.blk
      have Htk := Lib.hid htk; clear htk
      have Ca := Lib.hid ca; clear ca
      go_wp2_with fail
      refine Ca.out.mono ?_
      rintro e w3 hmv
      unfold MovePost at hmv
      have htk' := Htk.out
      by_cases hv : inV (-1000000) (aheadF 1 cur.1).2 = true
      case neg =>
        rw [if_neg hv] at hmv htk'
        obtain ⟨rfl, hbz⟩ := hmv
        have hbz' := TW.out.trans hbz
        have Htk' := Lib.hid htk'; clear htk'
        have Hbz' := Lib.hid hbz'; clear hbz'
        clear hv hbz y0 y1
        go_wp2
        exact ⟨rfl, takePost_no Htk'.out Hbz'.out⟩
      case pos =>
        rw [if_pos hv] at hmv htk'
        obtain ⟨rfl, u3⟩ := hmv
        have p3 := PW.out.upd u3
        have t3 := TW.out.trans (u3.bel g (Nat.le_refl _) (Nat.le_of_lt hgW))
        have Htk' := Lib.hid htk'; clear htk'
        have P3 := Lib.hid p3; clear p3
        have T3 := Lib.hid t3; clear t3
        clear hv u3 y0 y1
        go_wp2
        go_end0
        exact takePost_yes Htk'.out P3.out T3.out
    case neg =>
    have e102 : (nm == 102) = false := by simpa using h102
    by_cases h45 : nm = 45
    case pos =>
      subst h45
      have htk : takeF b ⟨cur, stk, lns, mks⟩ ⟨45, args⟩ = some ⟨turnF 1 0 1 cur, stk, lns, mks⟩ := by
        unfold takeF
        rw [if_neg (show ¬ (45 : Int) = 70 by decide), if_neg (show ¬ (45 : Int) = 102 by decide), if_neg (show ¬ (45 : Int) = 43 by decide), if_pos rfl]
        rw [Hst.out]
      have Htk := Lib.hid htk; clear htk
      have cu := tTurn_calls g cur b (.slice Ak stk.length ck) (.slice Al lns.length cl) (.slice Am mks.length cm) 2 (by omega) (-1) (by omega) W Hcur.out PW.out.blk
      have Cu := Lib.hid cu; clear cu
      go_wp2_with fail
      refine Cu.out.mono ?_
      rintro e w3 ⟨rfl, u3⟩
      have p3 := PW.out.upd u3
      have t3 := TW.out.trans (u3.bel g (Nat.le_refl _) (Nat.le_of_lt hgW))
      have P3 := Lib.hid p3; clear p3
      have T3 := Lib.hid t3; clear t3
      clear u3 y0 y1
      go_wp2
      go_end0
      refine takePost_yes (Htk.out.trans ?_) P3.out T3.out
      rw [← turn_neg1 Hcur.out 1]
      rfl
    case neg =>
    have e45 : (nm == 45) = false := by simpa using h45
    by_cases h43 : nm = 43
    case pos =>
      subst h43
      have htk : takeF b ⟨cur, stk, lns, mks⟩ ⟨43, args⟩ = some ⟨turnF 0 1 1 cur, stk, lns, mks⟩ := by
        unfold takeF
        rw [if_neg (show ¬ (43 : Int) = 70 by decide), if_neg (show ¬ (43 : Int) = 102 by decide), if_pos rfl]
        rw [Hst.out]
      have Htk := Lib.hid htk; clear htk
      have cu := tTurn_calls g cur b (.slice Ak stk.length ck) (.slice Al lns.length cl) (.slice Am mks.length cm) 2 (by omega) 1 (by omega) W Hcur.out PW.out.blk
      have Cu := Lib.hid cu; clear cu
      go_wp2_with fail
      refine Cu.out.mono ?_
      rintro e w3 ⟨rfl, u3⟩
      have p3 := PW.out.upd u3
      have t3 := TW.out.trans (u3.bel g (Nat.le_refl _) (Nat.le_of_lt hgW))
      have P3 := Lib.hid p3; clear p3
      have T3 := Lib.hid t3; clear t3
      clear u3 y0 y1
      go_wp2
      go_end0
      refine takePost_yes (Htk.out.trans ?_) P3.out T3.out
      rfl
    case neg =>
    have e43 : (nm == 43) = false := by simpa using h43
    by_cases h94 : nm = 94
    case pos =>
      subst h94
      have htk : takeF b ⟨cur, stk, lns, mks⟩ ⟨94, args⟩ = some ⟨turnF 0 2 1 cur, stk, lns, mks⟩ := by
        unfold takeF
        rw [if_neg (show ¬ (94 : Int) = 70 by decide), if_neg (show ¬ (94 : Int) = 102 by decide), if_neg (show ¬ (94 : Int) = 43 by decide), if_neg (show ¬ (94 : Int) = 45 by decide), if_pos rfl]
        rw [Hst.out]
      have Htk := Lib.hid htk; clear htk
      have cu := tTurn_calls g cur b (.slice Ak stk.length ck) (.slice Al lns.length cl) (.slice Am mks.length cm) 1 (by omega) (-1) (by omega) W Hcur.out PW.out.blk
      have Cu := Lib.hid cu; clear cu
      go_wp2_with fail
      refine Cu.out.mono ?_
      rintro e w3 ⟨rfl, u3⟩
      have p3 := PW.out.upd u3
      have t3 := TW.out.trans (u3.bel g (Nat.le_refl _) (Nat.le_of_lt hgW))
      have P3 := Lib.hid p3; clear p3
      have T3 := Lib.hid t3; clear t3
      clear u3 y0 y1
      go_wp2
      go_end0
      refine takePost_yes (Htk.out.trans ?_) P3.out T3.out
      rw [← turn_neg2 Hcur.out 1]
      rfl
    case neg =>
    have e94 : (nm == 94) = false := by simpa using h94
    by_cases h38 : nm = 38
    case pos =>
      subst h38
      have htk : takeF b ⟨cur, stk, lns, mks⟩ ⟨38, args⟩ = some ⟨turnF 2 0 1 cur, stk, lns, mks⟩ := by
        unfold takeF
        rw [if_neg (show ¬ (38 : Int) = 70 by decide), if_neg (show ¬ (38 : Int) = 102 by decide), if_neg (show ¬ (38 : Int) = 43 by decide), if_neg (show ¬ (38 : Int) = 45 by decide), if_neg (show ¬ (38 : Int) = 94 by decide), if_pos rfl]
        rw [Hst.out]
      have Htk := Lib.hid htk; clear htk
      have cu := tTurn_calls g cur b (.slice Ak stk.length ck) (.slice Al lns.length cl) (.slice Am mks.length cm) 1 (by omega) 1 (by omega) W Hcur.out PW.out.blk
      have Cu := Lib.hid cu; clear cu
      go_wp2_with fail
      refine Cu.out.mono ?_
      rintro e w3 ⟨rfl, u3⟩
      have p3 := PW.out.upd u3
      have t3 := TW.out.trans (u3.bel g (Nat.le_refl _) (Nat.le_of_lt hgW))
      have P3 := Lib.hid p3; clear p3
      have T3 := Lib.hid t3; clear t3
      clear u3 y0 y1
      go_wp2
      go_end0
      refine takePost_yes (Htk.out.trans ?_) P3.out T3.out
      rfl
    case neg =>
    have e38 : (nm == 38) = false := by simpa using h38
    by_cases h33 : nm = 33
    case pos =>
      subst h33
      have htk : takeF b ⟨cur, stk, lns, mks⟩ ⟨33, args⟩ = some ⟨turnF 1 2 1 cur, stk, lns, mks⟩ := by
        unfold takeF
        rw [if_neg (show ¬ (33 : Int) = 70 by decide), if_neg (show ¬ (33 : Int) = 102 by decide), if_neg (show ¬ (33 : Int) = 43 by decide), if_neg (show ¬ (33 : Int) = 45 by decide), if_neg (show ¬ (33 : Int) = 94 by decide), if_neg (show ¬ (33 : Int) = 38 by decide), if_pos rfl]
        rw [Hst.out]
      have Htk := Lib.hid htk; clear htk
      have cu := tTurn_calls g cur b (.slice Ak stk.length ck) (.slice Al lns.length cl) (.slice Am mks.length cm) 0 (by omega) 1 (by omega) W Hcur.out PW.out.blk
      have Cu := Lib.hid cu; clear cu
      go_wp2_with fail
      refine Cu.out.mono ?_
      rintro e w3 ⟨rfl, u3⟩
      have p3 := PW.out.upd u3
      have t3 := TW.out.trans (u3.bel g (Nat.le_refl _) (Nat.le_of_lt hgW))
      have P3 := Lib.hid p3; clear p3
      have T3 := Lib.hid t3; clear t3
      clear u3 y0 y1
      go_wp2
      go_end0
      refine takePost_yes (Htk.out.trans ?_) P3.out T3.out
      rfl
    case neg =>
    have e33 : (nm == 33) = false := by simpa using h33
    by_cases h124 : nm = 124
    case pos =>
      subst h124
      have htk : takeF b ⟨cur, stk, lns, mks⟩ ⟨124, args⟩ = some ⟨turnF 0 1 2 cur, stk, lns, mks⟩ := by
        unfold takeF
        rw [if_neg (show ¬ (124 : Int) = 70 by decide), if_neg (show ¬ (124 : Int) = 102 by decide), if_neg (show ¬ (124 : Int) = 43 by decide), if_neg (show ¬ (124 : Int) = 45 by decide), if_neg (show ¬ (124 : Int) = 94 by decide), if_neg (show ¬ (124 : Int) = 38 by decide), if_neg (show ¬ (124 : Int) = 33 by decide), if_pos rfl]
        skip
      have Htk := Lib.hid htk; clear htk
      have cu := tTurn_calls g cur b (.slice Ak stk.length ck) (.slice Al lns.length cl) (.slice Am mks.length cm) 2 (by omega) 2 (by omega) W Hcur.out PW.out.blk
      have Cu := Lib.hid cu; clear cu
      go_wp2_with fail
      refine Cu.out.mono ?_
      rintro e w3 ⟨rfl, u3⟩
      have p3 := PW.out.upd u3
      have t3 := TW.out.trans (u3.bel g (Nat.le_refl _) (Nat.le_of_lt hgW))
      have P3 := Lib.hid p3; clear p3
      have T3 := Lib.hid t3; clear t3
      clear u3 y0 y1
      go_wp2
      go_end0
      refine takePost_yes (Htk.out.trans ?_) P3.out T3.out
      rfl
    case neg =>
    have e124 : (nm == 124) = false := by simpa using h124
    by_cases h91 : nm = 91
    case pos =>
      subst h91
      have htk : takeF b ⟨cur, stk, lns, mks⟩ ⟨91, args⟩ = some ⟨cur, stk ++ [cur], lns, mks⟩ := by
        unfold takeF
        rw [if_neg (show ¬ (91 : Int) = 70 by decide), if_neg (show ¬ (91 : Int) = 102 by decide), if_neg (show ¬ (91 : Int) = 43 by decide), if_neg (show ¬ (91 : Int) = 45 by decide), if_neg (show ¬ (91 : Int) = 94 by decide), if_neg (show ¬ (91 : Int) = 38 by decide), if_neg (show ¬ (91 : Int) = 33 by decide), if_neg (show ¬ (91 : Int) = 124 by decide), if_pos rfl]
      have Htk := Lib.hid htk; clear htk
      have hrow := PW.out.blk
      unfold stRow at hrow
      have hzg := hrow.lt
      have x0 := hrow.cell 0
      have x1 := hrow.cell 1
      have x2 := hrow.cell 2
      have x3 := hrow.cell 3
      have x4 := hrow.cell 4
      have x7 := hrow.cell 7
      have Hrow := Lib.hid hrow; clear hrow
      go_upto_region 26 with fail
      refine wp_region_float1 90 (.pointer (some ⟨g, 0, none⟩)) 10 [⟨⟨9, 99, 28, #[.int .u8 cur.1.1, .int .i64 cur.1.2.1, .int .i64 cur.1.2.2.1, .int .i64 cur.1.2.2.2, .int .i64 cur.2]⟩, none, some (98, .agg #[.int .u8 cur.1.1, .int .i64 cur.1.2.1, .int .i64 cur.1.2.2.1, .int .i64 cur.1.2.2.2, .int .i64 cur.2])⟩] (by kernel_rfl) rfl rfl (by kernel_rfl) (by kernel_rfl) (by kernel_rfl) (fun _ _ _ h => h) (fun _ => rfl) (by kernel_rfl) rfl (by
          intro x hx hn
          rw [List.mem_singleton] at hx
          subst hx
          cases hn) (by
          intro x hx v u h o ho ev hev w0
          rw [List.mem_singleton] at hx
          subst hx
          simp at h
          obtain ⟨rfl, rfl⟩ := h
          injection ho with ho
          subst ho
          exact run_build1 (E := pTur) (z := .agg #[.int .u8 0, .int .i64 0, .int .i64 0, .int .i64 0, .int .i64 0]) (bytes := 40) rfl Tryd.underlying70 (by kernel_rfl) rfl (by decide) (by decide) hev rfl w0) (by
          intro x hx j v row h
          rw [List.mem_singleton] at hx
          subst hx
          cases h) ?_
      apply Exists.intro
      refine And.intro ?walk (And.intro ?vals ?tail)
      case walk =>
        intro W' hW'
        have e0 := cell_regrown ((cell_keep (hW'.block g (by omega))).trans x0)
        have e1 := cell_regrown ((cell_keep (hW'.block g (by omega))).trans x1)
        have e2 := cell_regrown ((cell_keep (hW'.block g (by omega))).trans x2)
        have e3 := cell_regrown ((cell_keep (hW'.block g (by omega))).trans x3)
        have e4 := cell_regrown ((cell_keep (hW'.block g (by omega))).trans x4)
        have e7 := cell_regrown ((cell_keep (hW'.block g (by omega))).trans x7)
        simp only [List.setIfInBounds_toArray, List.set_cons_succ, List.set_cons_zero, virtQ, fltQ, nopT, List.take_succ_cons, List.take_zero, List.drop_succ_cons, List.drop_zero, List.map_cons, List.map_nil, List.cons_append, List.nil_append]
        iterate 13 (go_big_quiet_step (fail))
        exact wpQuiet_nil rfl
      case vals => exact ⟨trivial, rfl, by simp, trivial⟩
      case tail =>
        intro p w6 hbw2 hB2 hD2
        have hB8 := hB2 _ (List.mem_cons_self)
        simp only [Fb.fin] at hB8
        simp only [putsB, Fb.mk', List.drop_succ_cons, List.drop_zero]
        obtain ⟨gn, hgn⟩ : ∃ k, p 9 = k := ⟨_, rfl⟩
        rw [hgn] at hB8 ⊢
        clear hB2 hD2
        obtain ⟨nb, nz⟩ := hB8
        have abz : RowKit.Below W.heap.size W w6 := hbw2
        have np := PW.out.later abz
        have nt := TW.out.trans (abz.mono (Nat.le_of_lt hgW))
        simp only [Act.put]
        have hox := np.ok
        have hba : g + 1 ≤ w6.heap.size := np.blk.lt
        have hbk : Blk w6 g 72 _ := np.blk
        have hgn' : some gn ≠ (Value.slice Ak stk.length ck).ownBlock := fun he => by have := (PW.out.ok.lt _ he.symm).2; omega
        have hR : pTur.R (fun _ => False) w6 (Value.agg #[.int .u8 cur.1.1, .int .i64 cur.1.2.1, .int .i64 cur.1.2.2.1, .int .i64 cur.1.2.2.2, .int .i64 cur.2]).cells.toList cur := tur_R Hcur.out
        refine wpList_app1S (xs := stk) (v := .slice Ak stk.length ck) (base := g + 1) 70 (.agg #[.int .u8 0, .int .i64 0, .int .i64 0, .int .i64 0, .int .i64 0]) 40 (.tmp 94) (.tmp 99) gn rfl rfl Tryd.underlying70 (by kernel_rfl) rfl (by decide) rfl rfl hox (.agg #[.int .u8 cur.1.1, .int .i64 cur.1.2.1, .int .i64 cur.1.2.2.1, .int .i64 cur.1.2.2.2, .int .i64 cur.2]) nb hgn' cur hR (stk.length + 1) rfl (room_of (by omega)) (by decide) hba ?_
        intro A10 c10 w7 hown7 hg7
        have hbm7 : Blk w7 g 72 _ := hbk.same (hg7.out.oth _ hbk.lt (fun e => by have := (hox.lt g e.symm).1; omega))
        unfold stRow at hbm7
        have z8 := hbm7.cell 7
        have f8 := hbm7.free 7
        have p4 := np.pushK hown7.out hg7.out
        have t4 := (nt.trans (hg7.out.bel.mono (Nat.le_succ _))).setCell (p := ⟨g, 7, none⟩) (Nat.le_refl _) (.slice A10 (stk.length + 1) c10)
        have P4 := Lib.hid p4; clear p4
        have T4 := Lib.hid t4; clear t4
        have Np := Lib.hid np; clear np
        have Nt := Lib.hid nt; clear nt
        have Hbk := Lib.hid hbk; clear hbk
        have Hbm7 := Lib.hid hbm7; clear hbm7
        have Hox := Lib.hid hox; clear hox
        clear nb hgn' hR hbw2 abz hown7 hg7
        go_wp2
        go_end0
        exact takePost_yes Htk.out P4.out T4.out
    case neg =>
    have e91 : (nm == 91) = false := by simpa using h91
    by_cases h93 : nm = 93
    case pos =>
      subst h93
      have hne : stk ≠ [] := Hpop.out rfl
      have hk1 : 0 < stk.length := List.length_pos_iff.2 hne
      obtain ⟨q, c9, hk9, hq1, hq2, ho9⟩ := PW.out.ok.pop hne
      injection hk9 with hk8 hk7 hk6
      subst hk8 hk6
      obtain ⟨A9, c8, he9, hs9⟩ := PW.out.ok.sl
      injection he9 with hk8 hk7 hk6
      subst hk8 hk6
      obtain ⟨k, hk⟩ : ∃ k, stk.length - 1 = k := ⟨_, rfl⟩
      have hkl : k < stk.length := by omega
      obtain ⟨b9, o9, cs9, x, hdx, hA9, _, ⟨hcs9, _⟩, hce⟩ := hs9.get hkl
      have hA9' := Option.some.inj hA9
      have hb9 : q = b9 := congrArg Addr.block hA9'
      have ho0 : 0 = o9 := congrArg Addr.off hA9'
      subst hb9 ho0 hcs9
      have hlast : stk.getLast? = some x := by
        rw [List.getLast?_eq_getElem?, hk]
        exact get_of_drop hdx.out
      have htk : takeF b ⟨cur, stk, lns, mks⟩ ⟨93, args⟩ = some ⟨x, stk.dropLast, lns, mks⟩ := by
        unfold takeF
        rw [if_neg (show ¬ (93 : Int) = 70 by decide), if_neg (show ¬ (93 : Int) = 102 by decide), if_neg (show ¬ (93 : Int) = 43 by decide), if_neg (show ¬ (93 : Int) = 45 by decide), if_neg (show ¬ (93 : Int) = 94 by decide), if_neg (show ¬ (93 : Int) = 38 by decide), if_neg (show ¬ (93 : Int) = 33 by decide), if_neg (show ¬ (93 : Int) = 124 by decide), if_neg (show ¬ (93 : Int) = 91 by decide), if_pos rfl]
        simp only [hlast]
      have i0 := hce 0 _ rfl
      have i1 := hce 1 _ rfl
      have i2 := hce 2 _ rfl
      have i3 := hce 3 _ rfl
      have i4 := hce 4 _ rfl
      simp only [pTur, Nat.zero_add, Nat.add_zero] at i0 i1 i2 i3 i4
      have hrow := PW.out.blk
      unfold stRow at hrow
      have x7 := hrow.cell 7
      have x0 := hrow.cell 0
      have x1 := hrow.cell 1
      have x2 := hrow.cell 2
      have x3 := hrow.cell 3
      have x4 := hrow.cell 4
      have f0 := hrow.free 0
      have f1 := hrow.free 1
      have f2 := hrow.free 2
      have f3 := hrow.free 3
      have f4 := hrow.free 4
      have f7 := hrow.free 7
      have hkc : (stk.length : Int) - 1 = (k : Int) := by omega
      have hkc1 : (0 : Int) ≤ (k : Int) := by omega
      have hkc2 : (k : Int) < (stk.length : Int) := by omega
      have hkc3 : k ≤ stk.length := by omega
      have u9 : Upd g 72 (stRow x b (.slice (some ⟨q, 0, none⟩) k k) (.slice Al lns.length cl) (.slice Am mks.length cm)) W ((((((W.setCell ⟨g, 0, none⟩ (.int .u8 x.1.1)).setCell ⟨g, 1, none⟩ (.int .i64 x.1.2.1)).setCell ⟨g, 2, none⟩ (.int .i64 x.1.2.2.1)).setCell ⟨g, 3, none⟩ (.int .i64 x.1.2.2.2)).setCell ⟨g, 4, none⟩ (.int .i64 x.2)).setCell ⟨g, 7, none⟩ (.slice (some ⟨q, 0, none⟩) k k)) := ((((((((Upd.refl PW.out.blk).set 0 _).set 1 _).set 2 _).set 3 _).set 4 _).set 7 _)).as (by simp [stRow])
      rw [hk] at ho9
      have hqg : q ≠ g := by omega
      have hsl := fun W' : World => run_slice3 (P := Tryd.prog) Tryd.underlying70 (by kernel_rfl : (Tryd.prog.info? 28).map (·.size) = some 5) ⟨q, 0, none⟩ (n := stk.length) (c := ck) (k := k) (by have := Sk.out.le; omega) W'
      have Htk := Lib.hid htk; clear htk
      have Hrow := Lib.hid hrow; clear hrow
      have Hk := Lib.hid hk; clear hk
      have Ho9 := Lib.hid ho9; clear ho9
      have Hdx := Lib.hid hdx; clear hdx
      have Hs9 := Lib.hid hs9; clear hs9
      have Hlast := Lib.hid hlast; clear hlast
      have Hne := Lib.hid hne; clear hne
      have U9 := Lib.hid u9; clear u9
      have Hkc := Lib.hid hkc; clear hkc
      have Hkc3 := Lib.hid hkc3; clear hkc3
      clear hA9 hA9' hce hk7
      go_upto_region 28 with fail
      rw [Hkc.out]
      go_region
      have u10 := U9.out.drew
      have p10 : PS g b (.slice (some ⟨q, 0, none⟩) k k) (.slice Al lns.length cl) (.slice Am mks.length cm) ⟨x, stk.dropLast, lns, mks⟩ _ := ⟨u10.blk, Ho9.out.upd u10 (Nat.lt_succ_self _), PW.out.ol.upd u10 (Nat.lt_succ_self _), PW.out.om.upd u10 (Nat.lt_succ_self _), PW.out.kl, PW.out.km, PW.out.lm⟩
      have t10 := TW.out.trans (u10.bel g (Nat.le_refl _) (Nat.le_of_lt hgW))
      have P10 := Lib.hid p10; clear p10
      have T10 := Lib.hid t10; clear t10
      clear x0 x1 x2 x3 x4 x7 f0 f1 f2 f3 f4 f7 i0 i1 i2 i3 i4 hsl u10
      go_wp2
      go_end0
      exact takePost_yes Htk.out P10.out T10.out
    case neg =>
    have e93 : (nm == 93) = false := by simpa using h93
    have htk : takeF b ⟨cur, stk, lns, mks⟩ ⟨nm, args⟩ = some ⟨cur, stk, lns, mks ++ [⟨nm, cur.1.1, cur.1.2⟩]⟩ := by
      unfold takeF
      rw [if_neg h70, if_neg h102, if_neg h43, if_neg h45, if_neg h94, if_neg h38, if_neg h33, if_neg h124, if_neg h91, if_neg h93]
    have Htk := Lib.hid htk; clear htk
    have zm : w.heap.size < W.heap.size := Bm.out.lt
    have hrow := PW.out.blk
    unfold stRow at hrow
    have hzg := hrow.lt
    have x0 := hrow.cell 0
    have x1 := hrow.cell 1
    have x2 := hrow.cell 2
    have x3 := hrow.cell 3
    have x9 := hrow.cell 9
    have Hrow := Lib.hid hrow; clear hrow
    go_upto_region 29 with fail
    refine wp_region_float1 129 (.pointer (some ⟨g, 0, none⟩)) 15 [⟨⟨14, 143, 65, #[.int .u8 nm, .int .u8 cur.1.1, .int .i64 cur.1.2.1, .int .i64 cur.1.2.2.1, .int .i64 cur.1.2.2.2]⟩, none, some (142, .agg #[.int .u8 nm, .int .u8 cur.1.1, .int .i64 cur.1.2.1, .int .i64 cur.1.2.2.1, .int .i64 cur.1.2.2.2])⟩] (by kernel_rfl) rfl rfl (by kernel_rfl) (by kernel_rfl) (by kernel_rfl) (fun _ _ _ h => h) (fun _ => rfl) (by kernel_rfl) rfl (by
        intro x hx hn
        rw [List.mem_singleton] at hx
        subst hx
        cases hn) (by
        intro x hx v u h o ho ev hev w0
        rw [List.mem_singleton] at hx
        subst hx
        simp at h
        obtain ⟨rfl, rfl⟩ := h
        injection ho with ho
        subst ho
        exact run_build1 (E := pMk) (z := .agg #[.int .u8 0, .int .u8 0, .int .i64 0, .int .i64 0, .int .i64 0]) (bytes := 40) rfl Tryd.underlying34 (by kernel_rfl) rfl (by decide) (by decide) hev rfl w0) (by
        intro x hx j v row h
        rw [List.mem_singleton] at hx
        subst hx
        cases h) ?_
    apply Exists.intro
    refine And.intro ?walk (And.intro ?vals ?tail)
    case walk =>
      intro W' hW'
      have e0 := cell_regrown ((cell_keep (hW'.block g (by omega))).trans x0)
      have e1 := cell_regrown ((cell_keep (hW'.block g (by omega))).trans x1)
      have e2 := cell_regrown ((cell_keep (hW'.block g (by omega))).trans x2)
      have e3 := cell_regrown ((cell_keep (hW'.block g (by omega))).trans x3)
      have e9 := cell_regrown ((cell_keep (hW'.block g (by omega))).trans x9)
      have em := cell_regrown ((cell_keep (hW'.block w.heap.size (by omega))).trans y0)
      simp only [List.setIfInBounds_toArray, List.set_cons_succ, List.set_cons_zero, virtQ, fltQ, nopT, List.take_succ_cons, List.take_zero, List.drop_succ_cons, List.drop_zero, List.map_cons, List.map_nil, List.cons_append, List.nil_append]
      iterate 19 (go_big_quiet_step (fail))
      exact wpQuiet_nil rfl
    case vals => exact ⟨trivial, rfl, by simp, trivial⟩
    case tail =>
      intro p w6 hbw2 hB2 hD2
      have hB8 := hB2 _ (List.mem_cons_self)
      simp only [Fb.fin] at hB8
      simp only [putsB, Fb.mk', List.drop_succ_cons, List.drop_zero]
      obtain ⟨gn, hgn⟩ : ∃ k, p 14 = k := ⟨_, rfl⟩
      rw [hgn] at hB8 ⊢
      clear hB2 hD2
      obtain ⟨nb, nz⟩ := hB8
      have abz : RowKit.Below W.heap.size W w6 := hbw2
      have np := PW.out.later abz
      have nt := TW.out.trans (abz.mono (Nat.le_of_lt hgW))
      simp only [Act.put]
      have hox := np.om
      have hba : g + 1 ≤ w6.heap.size := np.blk.lt
      have hbk : Blk w6 g 72 _ := np.blk
      have hgn' : some gn ≠ (Value.slice Am mks.length cm).ownBlock := fun he => by have := (PW.out.om.lt _ he.symm).2; omega
      have hR : pMk.R (fun _ => False) w6 (Value.agg #[.int .u8 nm, .int .u8 cur.1.1, .int .i64 cur.1.2.1, .int .i64 cur.1.2.2.1, .int .i64 cur.1.2.2.2]).cells.toList ⟨nm, cur.1.1, cur.1.2⟩ := ⟨rfl, hu8, (tur_R (F := fun _ => False) (w := w6) Hcur.out).2.1, (tur_R (F := fun _ => False) (w := w6) Hcur.out).2.2.1⟩
      refine wpList_app1G (E := pMk) (xs := mks) (v := .slice Am mks.length cm) (base := g + 1) (G := fun _ => False) 34 65 (.agg #[.int .u8 0, .int .u8 0, .int .i64 0, .int .i64 0, .int .i64 0]) 40 (.tmp 134) (.tmp 143) gn rfl rfl Tryd.underlying34 (by kernel_rfl) rfl (by decide) rfl rfl hox (.agg #[.int .u8 nm, .int .u8 cur.1.1, .int .i64 cur.1.2.1, .int .i64 cur.1.2.2.1, .int .i64 cur.1.2.2.2]) nb hgn' ⟨nm, cur.1.1, cur.1.2⟩ (fun _ => False) hR (fun _ h => h.elim) (mks.length + 1) rfl (room_of (by omega)) (by decide) hba ?_
      intro A10 c10 w7 hown7 hg7
      have hbm7 : Blk w7 g 72 _ := hbk.same (hg7.out.oth _ hbk.lt (own_ne hox (Nat.le_refl _)))
      unfold stRow at hbm7
      have z8 := hbm7.cell 9
      have f8 := hbm7.free 9
      have p4 := np.pushM hown7.out hg7.out
      have t4 := (nt.trans (hg7.out.bel.mono (Nat.le_succ _))).setCell (p := ⟨g, 9, none⟩) (Nat.le_refl _) (.slice A10 (mks.length + 1) c10)
      have P4 := Lib.hid p4; clear p4
      have T4 := Lib.hid t4; clear t4
      have Np := Lib.hid np; clear np
      have Nt := Lib.hid nt; clear nt
      have Hbk := Lib.hid hbk; clear hbk
      have Hbm7 := Lib.hid hbm7; clear hbm7
      have Hox := Lib.hid hox; clear hox
      clear nb hgn' hR hbw2 abz hown7 hg7
      go_wp2
      go_end0
      exact takePost_yes Htk.out P4.out T4.out
  case pos =>
    obtain ⟨bx, ox, x, hdx, rfl, hbx, hcx, hfx⟩ := ha.getI hlen
    have hst : stepN ⟨nm, args⟩ = x := by
      have h1 := hdx.out
      rw [List.drop_zero] at h1
      unfold stepN
      rw [h1]
      rfl
    have hnb : -1000000000 ≤ x ∧ x ≤ 1000000000 := hal x (mem_of_drop hdx.out)
    have hnb1 := hnb.1
    have hnb2 := hnb.2
    have hcx' : W.cell? ⟨bx, ox, none⟩ = some (.int .i64 x) := (cell_keep (ab.block bx (hF bx hbx))).trans (by simpa using hcx)
    rw [hW] at hcx'
    have hbx' : bx < w.heap.size := hF bx hbx
    have hcx2 : w.cell? ⟨bx, ox, none⟩ = some (.int .i64 x) := by simpa using hcx
    clear hcx hdx
    have Bm := Lib.hid bm; clear bm
    have PW := Lib.hid pW; clear pW
    have TW := Lib.hid tW; clear tW
    have Hp := Lib.hid hp; clear hp
    have Hok := Lib.hid hok; clear hok
    have Ha := Lib.hid ha; clear ha
    have Hal := Lib.hid hal; clear hal
    have HF := Lib.hid hF; clear hF
    have Sk := Lib.hid sk; clear sk
    have Sl := Lib.hid sl; clear sl
    have Sm := Lib.hid sm; clear sm
    have Hst := Lib.hid hst; clear hst
    have Hnb := Lib.hid hnb; clear hnb
    have Hcur := Lib.hid hcur; clear hcur
    have Hstk := Lib.hid hstk; clear hstk
    have Hpop := Lib.hid hpop; clear hpop
    have Hfine := Lib.hid hfine; clear hfine
    have Ab := Lib.hid ab; clear ab
    go_enter Tryd.func27, Tryd.ntmps27
    go_upto_region 5 with fail
    (try rw [← hW])
    clear hW
    by_cases h70 : nm = 70
    case pos =>
      subst h70
      have htk : takeF b ⟨cur, stk, lns, mks⟩ ⟨70, args⟩ = (if inV (-1000000) (aheadF x cur.1).2 = true then
          (if 1000000 < cur.2 + 1 then none
           else some ⟨bendF b (aheadF x cur.1, cur.2 + 1), stk, lns ++ [⟨cur.1.2, (aheadF x cur.1).2, stk.length⟩], mks⟩)
         else none) := by unfold takeF; rw [if_pos rfl, Hst.out]
      have hrow := PW.out.blk
      unfold stRow at hrow
      have q1 := hrow.cell 1
      have q2 := hrow.cell 2
      have q3 := hrow.cell 3
      obtain ⟨w2, hw2⟩ : ∃ w2, w2 = W.alloc (.cells #[.int .i64 cur.1.2.1, .int .i64 cur.1.2.2.1, .int .i64 cur.1.2.2.2] 24) := ⟨_, rfl⟩
      obtain ⟨g5, hg5⟩ : ∃ k, k = W.heap.size := ⟨_, rfl⟩
      have n5 : Blk w2 g5 24 #[.int .i64 cur.1.2.1, .int .i64 cur.1.2.2.1, .int .i64 cur.1.2.2.2] := by rw [hw2, hg5]; exact Blk.new _ _ _
      have ab2 : RowKit.Below W.heap.size W w2 := by rw [hw2]; exact al1
      have p2 := PW.out.later ab2
      have t2 := TW.out.trans (ab2.mono (Nat.le_of_lt hgW))
      have hg5g : g < g5 := by omega
      clear ab2
      have ca := tAhead_calls g cur b (.slice Ak stk.length ck) (.slice Al lns.length cl) (.slice Am mks.length cm) x Hnb.out w2 Hcur.out p2.blk
      obtain ⟨A1, hA1⟩ : ∃ a, aheadF x cur.1 = a := ⟨_, rfl⟩
      rw [hA1] at ca htk
      have hA11 : A1.1 = cur.1.1 := by rw [← hA1]; rfl
      have Htk := Lib.hid htk; clear htk
      have Hrow := Lib.hid hrow; clear hrow
      have N5 := Lib.hid n5; clear n5
      have P2 := Lib.hid p2; clear p2
      have T2 := Lib.hid t2; clear t2
      have Ca := Lib.hid ca; clear ca
      have HA1 := Lib.hid hA1; clear hA1
      have HA11 := Lib.hid hA11; clear hA11
      go_upto_region 16 with fail
      rw [← hw2, ← hg5]
      clear hw2 hg5 q1 q2 q3 y0 y1
      go_wp2_with fail
      refine Ca.out.mono ?_
      rintro e w3 hmv
      unfold MovePost at hmv
      by_cases hv : inV (-1000000) A1.2 = true
      case neg =>
        rw [if_neg hv] at hmv
        obtain ⟨rfl, hbz⟩ := hmv
        have htk' := Htk.out
        rw [if_neg hv] at htk'
        have hbz' := T2.out.trans hbz
        have Htk' := Lib.hid htk'; clear htk'
        have Hbz' := Lib.hid hbz'; clear hbz'
        clear hv hbz
        go_wp2
        exact ⟨rfl, takePost_no Htk'.out Hbz'.out⟩
      case pos =>
        rw [if_pos hv] at hmv
        obtain ⟨rfl, u3⟩ := hmv
        have htk' := Htk.out
        rw [if_pos hv] at htk'
        have p3 := P2.out.upd u3
        have t3 := T2.out.trans (u3.bel g (Nat.le_refl _) (Nat.le_of_lt P2.out.blk.lt))
        have n5 := N5.out.same (u3.oth _ N5.out.lt (by omega))
        have hok3 : TurOk (A1, cur.2) := ⟨by show 0 ≤ A1.1; rw [HA11.out]; exact Hcur.out.lo, checkFr_of (by rw [HA11.out]; exact (checkFr_ok Hcur.out.ck).1) hv, Hcur.out.d0, Hcur.out.d1⟩
        have hrow := p3.blk
        unfold stRow at hrow
        simp only at hrow
        have hzg := hrow.lt
        have hz5 := n5.lt
        have x1 := hrow.cell 1
        have x2 := hrow.cell 2
        have x3 := hrow.cell 3
        have x7 := hrow.cell 7
        have x8 := hrow.cell 8
        have v0 := n5.cell 0
        have v1 := n5.cell 1
        have v2 := n5.cell 2
        have hfit1 : FitV cur.1.2 := fitV_in (checkFr_ok Hcur.out.ck).2
        have hfit2 : FitV A1.2 := fitV_in hv
        have Htk' := Lib.hid htk'; clear htk'
        have P3 := Lib.hid p3; clear p3
        have T3 := Lib.hid t3; clear t3
        have N5 := Lib.hid n5; clear n5
        have Hok3 := Lib.hid hok3; clear hok3
        have Hrow := Lib.hid hrow; clear hrow
        have Hfit1 := Lib.hid hfit1; clear hfit1
        have Hfit2 := Lib.hid hfit2; clear hfit2
        have Hv := Lib.hid hv; clear hv
        clear u3
        go_upto_region 17 with fail
        refine wp_region_float1 46 (.pointer (some ⟨g, 0, none⟩)) 20 [⟨⟨19, 65, 46, #[.int .i64 cur.1.2.1, .int .i64 cur.1.2.2.1, .int .i64 cur.1.2.2.2, .int .i64 A1.2.1, .int .i64 A1.2.2.1, .int .i64 A1.2.2.2, .int .i64 (stk.length : Int)]⟩, none, some (64, .agg #[.int .i64 cur.1.2.1, .int .i64 cur.1.2.2.1, .int .i64 cur.1.2.2.2, .int .i64 A1.2.1, .int .i64 A1.2.2.1, .int .i64 A1.2.2.2, .int .i64 (stk.length : Int)])⟩] (by kernel_rfl) rfl rfl (by kernel_rfl) (by kernel_rfl) (by kernel_rfl) (fun _ _ _ h => h) (fun _ => rfl) (by kernel_rfl) rfl (by
            intro x hx hn
            rw [List.mem_singleton] at hx
            subst hx
            cases hn) (by
            intro x hx v u h o ho ev hev w0
            rw [List.mem_singleton] at hx
            subst hx
            simp at h
            obtain ⟨rfl, rfl⟩ := h
            injection ho with ho
            subst ho
            exact run_build1 (E := pLn) (z := .agg #[.int .i64 0, .int .i64 0, .int .i64 0, .int .i64 0, .int .i64 0, .int .i64 0, .int .i64 0]) (bytes := 56) rfl Tryd.underlying33 (by kernel_rfl) rfl (by decide) (by decide) hev rfl w0) (by
            intro x hx j v row h
            rw [List.mem_singleton] at hx
            subst hx
            cases h) ?_
        apply Exists.intro
        refine And.intro ?walk (And.intro ?vals ?tail)
        case walk =>
          intro W' hW'
          have e1 := cell_regrown ((cell_keep (hW'.block g (by omega))).trans x1)
          have e2 := cell_regrown ((cell_keep (hW'.block g (by omega))).trans x2)
          have e3 := cell_regrown ((cell_keep (hW'.block g (by omega))).trans x3)
          have e7 := cell_regrown ((cell_keep (hW'.block g (by omega))).trans x7)
          have e8 := cell_regrown ((cell_keep (hW'.block g (by omega))).trans x8)
          have d0 := cell_regrown ((cell_keep (hW'.block g5 (by omega))).trans v0)
          have d1 := cell_regrown ((cell_keep (hW'.block g5 (by omega))).trans v1)
          have d2 := cell_regrown ((cell_keep (hW'.block g5 (by omega))).trans v2)
          simp only [List.setIfInBounds_toArray, List.set_cons_succ, List.set_cons_zero, virtQ, fltQ, nopT, List.take_succ_cons, List.take_zero, List.drop_succ_cons, List.drop_zero, List.map_cons, List.map_nil, List.cons_append, List.nil_append]
          iterate 24 (go_big_quiet_step (fail))
          exact wpQuiet_nil rfl
        case vals => exact ⟨trivial, rfl, by simp, trivial⟩
        case tail =>
          intro p w6 hbw2 hB2 hD2
          have hB8 := hB2 _ (List.mem_cons_self)
          simp only [Fb.fin] at hB8
          simp only [putsB, Fb.mk', List.drop_succ_cons, List.drop_zero]
          obtain ⟨gn, hgn⟩ : ∃ k, p 19 = k := ⟨_, rfl⟩
          rw [hgn] at hB8 ⊢
          clear hB2 hD2
          obtain ⟨nb, nz⟩ := hB8
          have abz : RowKit.Below w3.heap.size w3 w6 := hbw2
          have np := P3.out.later abz
          have nt := T3.out.trans (abz.mono (Nat.le_of_lt hzg))
          simp only [Act.put]
          have hox := np.ol
          have hba : g + 1 ≤ w6.heap.size := np.blk.lt
          have hbk : Blk w6 g 72 _ := np.blk
          have hgn' : some gn ≠ (Value.slice Al lns.length cl).ownBlock := fun he => by have := (P3.out.ol.lt _ he.symm).2; omega
          have hR : pLn.R (fun _ => False) w6 (Value.agg #[.int .i64 cur.1.2.1, .int .i64 cur.1.2.2.1, .int .i64 cur.1.2.2.2, .int .i64 A1.2.1, .int .i64 A1.2.2.1, .int .i64 A1.2.2.2, .int .i64 (stk.length : Int)]).cells.toList ⟨cur.1.2, A1.2, (stk.length : Int)⟩ := ⟨rfl, Hfit1.out, Hfit2.out, fits_i64 (by simp only; omega)⟩
          refine wpList_app1G (E := pLn) (xs := lns) (v := .slice Al lns.length cl) (base := g + 1) (G := fun _ => False) 33 46 (.agg #[.int .i64 0, .int .i64 0, .int .i64 0, .int .i64 0, .int .i64 0, .int .i64 0, .int .i64 0]) 56 (.tmp 51) (.tmp 65) gn rfl rfl Tryd.underlying33 (by kernel_rfl) rfl (by decide) rfl rfl hox (.agg #[.int .i64 cur.1.2.1, .int .i64 cur.1.2.2.1, .int .i64 cur.1.2.2.2, .int .i64 A1.2.1, .int .i64 A1.2.2.1, .int .i64 A1.2.2.2, .int .i64 (stk.length : Int)]) nb hgn' ⟨cur.1.2, A1.2, (stk.length : Int)⟩ (fun _ => False) hR (fun _ h => h.elim) (lns.length + 1) rfl (room_of (by omega)) (by decide) hba ?_
          intro A10 c10 w7 hown7 hg7
          have hbm7 : Blk w7 g 72 _ := hbk.same (hg7.out.oth _ hbk.lt (own_ne hox (Nat.le_refl _)))
          unfold stRow at hbm7
          have z8 := hbm7.cell 8
          have f8 := hbm7.free 8
          have p4 := np.pushL hown7.out hg7.out
          have t4 := (nt.trans (hg7.out.bel.mono (Nat.le_succ _))).setCell (p := ⟨g, 8, none⟩) (Nat.le_refl _) (.slice A10 (lns.length + 1) c10)
          obtain ⟨wz, hwz⟩ : ∃ W, W = w7.setCell ⟨g, 8, none⟩ (.slice A10 (lns.length + 1) c10) := ⟨_, rfl⟩
          rw [← hwz] at p4 t4
          have cb := tBent_calls g (A1, cur.2) b _ _ _ wz Hok3.out hb1 hb2 p4.blk
          simp only at cb
          have P4 := Lib.hid p4; clear p4
          have T4 := Lib.hid t4; clear t4
          have Cb := Lib.hid cb; clear cb
          have Np := Lib.hid np; clear np
          have Nt := Lib.hid nt; clear nt
          have Hbk := Lib.hid hbk; clear hbk
          have Hbm7 := Lib.hid hbm7; clear hbm7
          have Hox := Lib.hid hox; clear hox
          clear nb hgn' hR hbw2 abz x1 x2 x3 x7 x8 v0 v1 v2 hown7 hg7
          go_upto_region 18 with fail
          rw [← hwz]
          clear z8 f8 hwz
          go_wp2_with fail
          refine Cb.out.mono ?_
          rintro e w9 hmv
          unfold MovePost at hmv
          by_cases hd : cur.2 + 1 ≤ 1000000
          case neg =>
            rw [if_neg (by simpa using hd)] at hmv
            obtain ⟨rfl, hbz⟩ := hmv
            have htk2 := Htk'.out
            rw [if_pos (by omega)] at htk2
            have hbz' := T4.out.trans hbz
            have Htk2 := Lib.hid htk2; clear htk2
            have Hbz' := Lib.hid hbz'; clear hbz'
            clear hd hbz
            go_wp2
            exact ⟨rfl, takePost_no Htk2.out Hbz'.out⟩
          case pos =>
            rw [if_pos (by simpa using hd)] at hmv
            obtain ⟨rfl, u9⟩ := hmv
            have htk2 := Htk'.out
            rw [if_neg (by omega)] at htk2
            have p9 := P4.out.upd u9
            have t9 := T4.out.trans (u9.bel g (Nat.le_refl _) (Nat.le_of_lt P4.out.blk.lt))
            have Htk2 := Lib.hid htk2; clear htk2
            have P9 := Lib.hid p9; clear p9
            have T9 := Lib.hid t9; clear t9
            clear hd u9
            go_wp2
            go_end0
            exact takePost_yes Htk2.out P9.out T9.out
    case neg =>
    have e70 : (nm == 70) = false := by simpa using h70
    by_cases h102 : nm = 102
    case pos =>
      subst h102
      have htk : takeF b ⟨cur, stk, lns, mks⟩ ⟨102, args⟩ = (if inV (-1000000) (aheadF x cur.1).2 = true then some ⟨(aheadF x cur.1, cur.2), stk, lns, mks⟩ else none) := by unfold takeF; rw [if_neg (show ¬ (102 : Int) = 70 by decide), if_pos rfl, Hst.out]
      have ca := tAhead_calls g cur b (.slice Ak stk.length ck) (.slice Al lns.length cl) (.slice Am mks.length cm) x Hnb.out W Hcur.out PW.out.blk
      have Htk := Lib.hid htk; clear htk
      have Ca := Lib.hid ca; clear ca
      go_wp2_with fail
      refine Ca.out.mono ?_
      rintro e w3 hmv
      unfold MovePost at hmv
      have htk' := Htk.out
      by_cases hv : inV (-1000000) (aheadF x cur.1).2 = true
      case neg =>
        rw [if_neg hv] at hmv htk'
        obtain ⟨rfl, hbz⟩ := hmv
        have hbz' := TW.out.trans hbz
        have Htk' := Lib.hid htk'; clear htk'
        have Hbz' := Lib.hid hbz'; clear hbz'
        clear hv hbz y0 y1
        go_wp2
        exact ⟨rfl, takePost_no Htk'.out Hbz'.out⟩
      case pos =>
        rw [if_pos hv] at hmv htk'
        obtain ⟨rfl, u3⟩ := hmv
        have p3 := PW.out.upd u3
        have t3 := TW.out.trans (u3.bel g (Nat.le_refl _) (Nat.le_of_lt hgW))
        have Htk' := Lib.hid htk'; clear htk'
        have P3 := Lib.hid p3; clear p3
        have T3 := Lib.hid t3; clear t3
        clear hv u3 y0 y1
        go_wp2
        go_end0
        exact takePost_yes Htk'.out P3.out T3.out
    case neg =>
    have e102 : (nm == 102) = false := by simpa using h102
    by_cases h45 : nm = 45
    case pos =>
      subst h45
      have htk : takeF b ⟨cur, stk, lns, mks⟩ ⟨45, args⟩ = some ⟨turnF 1 0 x cur, stk, lns, mks⟩ := by
        unfold takeF
        rw [if_neg (show ¬ (45 : Int) = 70 by decide), if_neg (show ¬ (45 : Int) = 102 by decide), if_neg (show ¬ (45 : Int) = 43 by decide), if_pos rfl]
        rw [Hst.out]
      have Htk := Lib.hid htk; clear htk
      have cu := tTurn_calls g cur b (.slice Ak stk.length ck) (.slice Al lns.length cl) (.slice Am mks.length cm) 2 (by omega) (-x) (by omega) W Hcur.out PW.out.blk
      have Cu := Lib.hid cu; clear cu
      go_wp2_with fail
      refine Cu.out.mono ?_
      rintro e w3 ⟨rfl, u3⟩
      have p3 := PW.out.upd u3
      have t3 := TW.out.trans (u3.bel g (Nat.le_refl _) (Nat.le_of_lt hgW))
      have P3 := Lib.hid p3; clear p3
      have T3 := Lib.hid t3; clear t3
      clear u3 y0 y1
      go_wp2
      go_end0
      refine takePost_yes (Htk.out.trans ?_) P3.out T3.out
      rw [← turn_neg1 Hcur.out x]
      rfl
    case neg =>
    have e45 : (nm == 45) = false := by simpa using h45
    by_cases h43 : nm = 43
    case pos =>
      subst h43
      have htk : takeF b ⟨cur, stk, lns, mks⟩ ⟨43, args⟩ = some ⟨turnF 0 1 x cur, stk, lns, mks⟩ := by
        unfold takeF
        rw [if_neg (show ¬ (43 : Int) = 70 by decide), if_neg (show ¬ (43 : Int) = 102 by decide), if_pos rfl]
        rw [Hst.out]
      have Htk := Lib.hid htk; clear htk
      have cu := tTurn_calls g cur b (.slice Ak stk.length ck) (.slice Al lns.length cl) (.slice Am mks.length cm) 2 (by omega) x (by omega) W Hcur.out PW.out.blk
      have Cu := Lib.hid cu; clear cu
      go_wp2_with fail
      refine Cu.out.mono ?_
      rintro e w3 ⟨rfl, u3⟩
      have p3 := PW.out.upd u3
      have t3 := TW.out.trans (u3.bel g (Nat.le_refl _) (Nat.le_of_lt hgW))
      have P3 := Lib.hid p3; clear p3
      have T3 := Lib.hid t3; clear t3
      clear u3 y0 y1
      go_wp2
      go_end0
      refine takePost_yes (Htk.out.trans ?_) P3.out T3.out
      rfl
    case neg =>
    have e43 : (nm == 43) = false := by simpa using h43
    by_cases h94 : nm = 94
    case pos =>
      subst h94
      have htk : takeF b ⟨cur, stk, lns, mks⟩ ⟨94, args⟩ = some ⟨turnF 0 2 x cur, stk, lns, mks⟩ := by
        unfold takeF
        rw [if_neg (show ¬ (94 : Int) = 70 by decide), if_neg (show ¬ (94 : Int) = 102 by decide), if_neg (show ¬ (94 : Int) = 43 by decide), if_neg (show ¬ (94 : Int) = 45 by decide), if_pos rfl]
        rw [Hst.out]
      have Htk := Lib.hid htk; clear htk
      have cu := tTurn_calls g cur b (.slice Ak stk.length ck) (.slice Al lns.length cl) (.slice Am mks.length cm) 1 (by omega) (-x) (by omega) W Hcur.out PW.out.blk
      have Cu := Lib.hid cu; clear cu
      go_wp2_with fail
      refine Cu.out.mono ?_
      rintro e w3 ⟨rfl, u3⟩
      have p3 := PW.out.upd u3
      have t3 := TW.out.trans (u3.bel g (Nat.le_refl _) (Nat.le_of_lt hgW))
      have P3 := Lib.hid p3; clear p3
      have T3 := Lib.hid t3; clear t3
      clear u3 y0 y1
      go_wp2
      go_end0
      refine takePost_yes (Htk.out.trans ?_) P3.out T3.out
      rw [← turn_neg2 Hcur.out x]
      rfl
    case neg =>
    have e94 : (nm == 94) = false := by simpa using h94
    by_cases h38 : nm = 38
    case pos =>
      subst h38
      have htk : takeF b ⟨cur, stk, lns, mks⟩ ⟨38, args⟩ = some ⟨turnF 2 0 x cur, stk, lns, mks⟩ := by
        unfold takeF
        rw [if_neg (show ¬ (38 : Int) = 70 by decide), if_neg (show ¬ (38 : Int) = 102 by decide), if_neg (show ¬ (38 : Int) = 43 by decide), if_neg (show ¬ (38 : Int) = 45 by decide), if_neg (show ¬ (38 : Int) = 94 by decide), if_pos rfl]
        rw [Hst.out]
      have Htk := Lib.hid htk; clear htk
      have cu := tTurn_calls g cur b (.slice Ak stk.length ck) (.slice Al lns.length cl) (.slice Am mks.length cm) 1 (by omega) x (by omega) W Hcur.out PW.out.blk
      have Cu := Lib.hid cu; clear cu
      go_wp2_with fail
      refine Cu.out.mono ?_
      rintro e w3 ⟨rfl, u3⟩
      have p3 := PW.out.upd u3
      have t3 := TW.out.trans (u3.bel g (Nat.le_refl _) (Nat.le_of_lt hgW))
      have P3 := Lib.hid p3; clear p3
      have T3 := Lib.hid t3; clear t3
      clear u3 y0 y1
      go_wp2
      go_end0
      refine takePost_yes (Htk.out.trans ?_) P3.out T3.out
      rfl
    case neg =>
    have e38 : (nm == 38) = false := by simpa using h38
    by_cases h33 : nm = 33
    case pos =>
      subst h33
      have htk : takeF b ⟨cur, stk, lns, mks⟩ ⟨33, args⟩ = some ⟨turnF 1 2 x cur, stk, lns, mks⟩ := by
        unfold takeF
        rw [if_neg (show ¬ (33 : Int) = 70 by decide), if_neg (show ¬ (33 : Int) = 102 by decide), if_neg (show ¬ (33 : Int) = 43 by decide), if_neg (show ¬ (33 : Int) = 45 by decide), if_neg (show ¬ (33 : Int) = 94 by decide), if_neg (show ¬ (33 : Int) = 38 by decide), if_pos rfl]
        rw [Hst.out]
      have Htk := Lib.hid htk; clear htk
      have cu := tTurn_calls g cur b (.slice Ak stk.length ck) (.slice Al lns.length cl) (.slice Am mks.length cm) 0 (by omega) x (by omega) W Hcur.out PW.out.blk
      have Cu := Lib.hid cu; clear cu
      go_wp2_with fail
      refine Cu.out.mono ?_
      rintro e w3 ⟨rfl, u3⟩
      have p3 := PW.out.upd u3
      have t3 := TW.out.trans (u3.bel g (Nat.le_refl _) (Nat.le_of_lt hgW))
      have P3 := Lib.hid p3; clear p3
      have T3 := Lib.hid t3; clear t3
      clear u3 y0 y1
      go_wp2
      go_end0
      refine takePost_yes (Htk.out.trans ?_) P3.out T3.out
      rfl
    case neg =>
    have e33 : (nm == 33) = false := by simpa using h33
    by_cases h124 : nm = 124
    case pos =>
      subst h124
      have htk : takeF b ⟨cur, stk, lns, mks⟩ ⟨124, args⟩ = some ⟨turnF 0 1 2 cur, stk, lns, mks⟩ := by
        unfold takeF
        rw [if_neg (show ¬ (124 : Int) = 70 by decide), if_neg (show ¬ (124 : Int) = 102 by decide), if_neg (show ¬ (124 : Int) = 43 by decide), if_neg (show ¬ (124 : Int) = 45 by decide), if_neg (show ¬ (124 : Int) = 94 by decide), if_neg (show ¬ (124 : Int) = 38 by decide), if_neg (show ¬ (124 : Int) = 33 by decide), if_pos rfl]
        skip
      have Htk := Lib.hid htk; clear htk
      have cu := tTurn_calls g cur b (.slice Ak stk.length ck) (.slice Al lns.length cl) (.slice Am mks.length cm) 2 (by omega) 2 (by omega) W Hcur.out PW.out.blk
      have Cu := Lib.hid cu; clear cu
      go_wp2_with fail
      refine Cu.out.mono ?_
      rintro e w3 ⟨rfl, u3⟩
      have p3 := PW.out.upd u3
      have t3 := TW.out.trans (u3.bel g (Nat.le_refl _) (Nat.le_of_lt hgW))
      have P3 := Lib.hid p3; clear p3
      have T3 := Lib.hid t3; clear t3
      clear u3 y0 y1
      go_wp2
      go_end0
      refine takePost_yes (Htk.out.trans ?_) P3.out T3.out
      rfl
    case neg =>
    have e124 : (nm == 124) = false := by simpa using h124
    by_cases h91 : nm = 91
    case pos =>
      subst h91
      have htk : takeF b ⟨cur, stk, lns, mks⟩ ⟨91, args⟩ = some ⟨cur, stk ++ [cur], lns, mks⟩ := by
        unfold takeF
        rw [if_neg (show ¬ (91 : Int) = 70 by decide), if_neg (show ¬ (91 : Int) = 102 by decide), if_neg (show ¬ (91 : Int) = 43 by decide), if_neg (show ¬ (91 : Int) = 45 by decide), if_neg (show ¬ (91 : Int) = 94 by decide), if_neg (show ¬ (91 : Int) = 38 by decide), if_neg (show ¬ (91 : Int) = 33 by decide), if_neg (show ¬ (91 : Int) = 124 by decide), if_pos rfl]
      have Htk := Lib.hid htk; clear htk
      have hrow := PW.out.blk
      unfold stRow at hrow
      have hzg := hrow.lt
      have x0 := hrow.cell 0
      have x1 := hrow.cell 1
      have x2 := hrow.cell 2
      have x3 := hrow.cell 3
      have x4 := hrow.cell 4
      have x7 := hrow.cell 7
      have Hrow := Lib.hid hrow; clear hrow
      go_upto_region 26 with fail
      refine wp_region_float1 90 (.pointer (some ⟨g, 0, none⟩)) 10 [⟨⟨9, 99, 28, #[.int .u8 cur.1.1, .int .i64 cur.1.2.1, .int .i64 cur.1.2.2.1, .int .i64 cur.1.2.2.2, .int .i64 cur.2]⟩, none, some (98, .agg #[.int .u8 cur.1.1, .int .i64 cur.1.2.1, .int .i64 cur.1.2.2.1, .int .i64 cur.1.2.2.2, .int .i64 cur.2])⟩] (by kernel_rfl) rfl rfl (by kernel_rfl) (by kernel_rfl) (by kernel_rfl) (fun _ _ _ h => h) (fun _ => rfl) (by kernel_rfl) rfl (by
          intro x hx hn
          rw [List.mem_singleton] at hx
          subst hx
          cases hn) (by
          intro x hx v u h o ho ev hev w0
          rw [List.mem_singleton] at hx
          subst hx
          simp at h
          obtain ⟨rfl, rfl⟩ := h
          injection ho with ho
          subst ho
          exact run_build1 (E := pTur) (z := .agg #[.int .u8 0, .int .i64 0, .int .i64 0, .int .i64 0, .int .i64 0]) (bytes := 40) rfl Tryd.underlying70 (by kernel_rfl) rfl (by decide) (by decide) hev rfl w0) (by
          intro x hx j v row h
          rw [List.mem_singleton] at hx
          subst hx
          cases h) ?_
      apply Exists.intro
      refine And.intro ?walk (And.intro ?vals ?tail)
      case walk =>
        intro W' hW'
        have e0 := cell_regrown ((cell_keep (hW'.block g (by omega))).trans x0)
        have e1 := cell_regrown ((cell_keep (hW'.block g (by omega))).trans x1)
        have e2 := cell_regrown ((cell_keep (hW'.block g (by omega))).trans x2)
        have e3 := cell_regrown ((cell_keep (hW'.block g (by omega))).trans x3)
        have e4 := cell_regrown ((cell_keep (hW'.block g (by omega))).trans x4)
        have e7 := cell_regrown ((cell_keep (hW'.block g (by omega))).trans x7)
        simp only [List.setIfInBounds_toArray, List.set_cons_succ, List.set_cons_zero, virtQ, fltQ, nopT, List.take_succ_cons, List.take_zero, List.drop_succ_cons, List.drop_zero, List.map_cons, List.map_nil, List.cons_append, List.nil_append]
        iterate 13 (go_big_quiet_step (fail))
        exact wpQuiet_nil rfl
      case vals => exact ⟨trivial, rfl, by simp, trivial⟩
      case tail =>
        intro p w6 hbw2 hB2 hD2
        have hB8 := hB2 _ (List.mem_cons_self)
        simp only [Fb.fin] at hB8
        simp only [putsB, Fb.mk', List.drop_succ_cons, List.drop_zero]
        obtain ⟨gn, hgn⟩ : ∃ k, p 9 = k := ⟨_, rfl⟩
        rw [hgn] at hB8 ⊢
        clear hB2 hD2
        obtain ⟨nb, nz⟩ := hB8
        have abz : RowKit.Below W.heap.size W w6 := hbw2
        have np := PW.out.later abz
        have nt := TW.out.trans (abz.mono (Nat.le_of_lt hgW))
        simp only [Act.put]
        have hox := np.ok
        have hba : g + 1 ≤ w6.heap.size := np.blk.lt
        have hbk : Blk w6 g 72 _ := np.blk
        have hgn' : some gn ≠ (Value.slice Ak stk.length ck).ownBlock := fun he => by have := (PW.out.ok.lt _ he.symm).2; omega
        have hR : pTur.R (fun _ => False) w6 (Value.agg #[.int .u8 cur.1.1, .int .i64 cur.1.2.1, .int .i64 cur.1.2.2.1, .int .i64 cur.1.2.2.2, .int .i64 cur.2]).cells.toList cur := tur_R Hcur.out
        refine wpList_app1S (xs := stk) (v := .slice Ak stk.length ck) (base := g + 1) 70 (.agg #[.int .u8 0, .int .i64 0, .int .i64 0, .int .i64 0, .int .i64 0]) 40 (.tmp 94) (.tmp 99) gn rfl rfl Tryd.underlying70 (by kernel_rfl) rfl (by decide) rfl rfl hox (.agg #[.int .u8 cur.1.1, .int .i64 cur.1.2.1, .int .i64 cur.1.2.2.1, .int .i64 cur.1.2.2.2, .int .i64 cur.2]) nb hgn' cur hR (stk.length + 1) rfl (room_of (by omega)) (by decide) hba ?_
        intro A10 c10 w7 hown7 hg7
        have hbm7 : Blk w7 g 72 _ := hbk.same (hg7.out.oth _ hbk.lt (fun e => by have := (hox.lt g e.symm).1; omega))
        unfold stRow at hbm7
        have z8 := hbm7.cell 7
        have f8 := hbm7.free 7
        have p4 := np.pushK hown7.out hg7.out
        have t4 := (nt.trans (hg7.out.bel.mono (Nat.le_succ _))).setCell (p := ⟨g, 7, none⟩) (Nat.le_refl _) (.slice A10 (stk.length + 1) c10)
        have P4 := Lib.hid p4; clear p4
        have T4 := Lib.hid t4; clear t4
        have Np := Lib.hid np; clear np
        have Nt := Lib.hid nt; clear nt
        have Hbk := Lib.hid hbk; clear hbk
        have Hbm7 := Lib.hid hbm7; clear hbm7
        have Hox := Lib.hid hox; clear hox
        clear nb hgn' hR hbw2 abz hown7 hg7
        go_wp2
        go_end0
        exact takePost_yes Htk.out P4.out T4.out
    case neg =>
    have e91 : (nm == 91) = false := by simpa using h91
    by_cases h93 : nm = 93
    case pos =>
      subst h93
      have hne : stk ≠ [] := Hpop.out rfl
      have hk1 : 0 < stk.length := List.length_pos_iff.2 hne
      obtain ⟨q, c9, hk9, hq1, hq2, ho9⟩ := PW.out.ok.pop hne
      injection hk9 with hk8 hk7 hk6
      subst hk8 hk6
      obtain ⟨A9, c8, he9, hs9⟩ := PW.out.ok.sl
      injection he9 with hk8 hk7 hk6
      subst hk8 hk6
      obtain ⟨k, hk⟩ : ∃ k, stk.length - 1 = k := ⟨_, rfl⟩
      have hkl : k < stk.length := by omega
      obtain ⟨b9, o9, cs9, x, hdx, hA9, _, ⟨hcs9, _⟩, hce⟩ := hs9.get hkl
      have hA9' := Option.some.inj hA9
      have hb9 : q = b9 := congrArg Addr.block hA9'
      have ho0 : 0 = o9 := congrArg Addr.off hA9'
      subst hb9 ho0 hcs9
      have hlast : stk.getLast? = some x := by
        rw [List.getLast?_eq_getElem?, hk]
        exact get_of_drop hdx.out
      have htk : takeF b ⟨cur, stk, lns, mks⟩ ⟨93, args⟩ = some ⟨x, stk.dropLast, lns, mks⟩ := by
        unfold takeF
        rw [if_neg (show ¬ (93 : Int) = 70 by decide), if_neg (show ¬ (93 : Int) = 102 by decide), if_neg (show ¬ (93 : Int) = 43 by decide), if_neg (show ¬ (93 : Int) = 45 by decide), if_neg (show ¬ (93 : Int) = 94 by decide), if_neg (show ¬ (93 : Int) = 38 by decide), if_neg (show ¬ (93 : Int) = 33 by decide), if_neg (show ¬ (93 : Int) = 124 by decide), if_neg (show ¬ (93 : Int) = 91 by decide), if_pos rfl]
        simp only [hlast]
      have i0 := hce 0 _ rfl
      have i1 := hce 1 _ rfl
      have i2 := hce 2 _ rfl
      have i3 := hce 3 _ rfl
      have i4 := hce 4 _ rfl
      simp only [pTur, Nat.zero_add, Nat.add_zero] at i0 i1 i2 i3 i4
      have hrow := PW.out.blk
      unfold stRow at hrow
      have x7 := hrow.cell 7
      have x0 := hrow.cell 0
      have x1 := hrow.cell 1
      have x2 := hrow.cell 2
      have x3 := hrow.cell 3
      have x4 := hrow.cell 4
      have f0 := hrow.free 0
      have f1 := hrow.free 1
      have f2 := hrow.free 2
      have f3 := hrow.free 3
      have f4 := hrow.free 4
      have f7 := hrow.free 7
      have hkc : (stk.length : Int) - 1 = (k : Int) := by omega
      have hkc1 : (0 : Int) ≤ (k : Int) := by omega
      have hkc2 : (k : Int) < (stk.length : Int) := by omega
      have hkc3 : k ≤ stk.length := by omega
      have u9 : Upd g 72 (stRow x b (.slice (some ⟨q, 0, none⟩) k k) (.slice Al lns.length cl) (.slice Am mks.length cm)) W ((((((W.setCell ⟨g, 0, none⟩ (.int .u8 x.1.1)).setCell ⟨g, 1, none⟩ (.int .i64 x.1.2.1)).setCell ⟨g, 2, none⟩ (.int .i64 x.1.2.2.1)).setCell ⟨g, 3, none⟩ (.int .i64 x.1.2.2.2)).setCell ⟨g, 4, none⟩ (.int .i64 x.2)).setCell ⟨g, 7, none⟩ (.slice (some ⟨q, 0, none⟩) k k)) := ((((((((Upd.refl PW.out.blk).set 0 _).set 1 _).set 2 _).set 3 _).set 4 _).set 7 _)).as (by simp [stRow])
      rw [hk] at ho9
      have hqg : q ≠ g := by omega
      have hsl := fun W' : World => run_slice3 (P := Tryd.prog) Tryd.underlying70 (by kernel_rfl : (Tryd.prog.info? 28).map (·.size) = some 5) ⟨q, 0, none⟩ (n := stk.length) (c := ck) (k := k) (by have := Sk.out.le; omega) W'
      have Htk := Lib.hid htk; clear htk
      have Hrow := Lib.hid hrow; clear hrow
      have Hk := Lib.hid hk; clear hk
      have Ho9 := Lib.hid ho9; clear ho9
      have Hdx := Lib.hid hdx; clear hdx
      have Hs9 := Lib.hid hs9; clear hs9
      have Hlast := Lib.hid hlast; clear hlast
      have Hne := Lib.hid hne; clear hne
      have U9 := Lib.hid u9; clear u9
      have Hkc := Lib.hid hkc; clear hkc
      have Hkc3 := Lib.hid hkc3; clear hkc3
      clear hA9 hA9' hce hk7
      go_upto_region 28 with fail
      rw [Hkc.out]
      go_region
      have u10 := U9.out.drew
      have p10 : PS g b (.slice (some ⟨q, 0, none⟩) k k) (.slice Al lns.length cl) (.slice Am mks.length cm) ⟨x, stk.dropLast, lns, mks⟩ _ := ⟨u10.blk, Ho9.out.upd u10 (Nat.lt_succ_self _), PW.out.ol.upd u10 (Nat.lt_succ_self _), PW.out.om.upd u10 (Nat.lt_succ_self _), PW.out.kl, PW.out.km, PW.out.lm⟩
      have t10 := TW.out.trans (u10.bel g (Nat.le_refl _) (Nat.le_of_lt hgW))
      have P10 := Lib.hid p10; clear p10
      have T10 := Lib.hid t10; clear t10
      clear x0 x1 x2 x3 x4 x7 f0 f1 f2 f3 f4 f7 i0 i1 i2 i3 i4 hsl u10
      go_wp2
      go_end0
      exact takePost_yes Htk.out P10.out T10.out
    case neg =>
    have e93 : (nm == 93) = false := by simpa using h93
    have htk : takeF b ⟨cur, stk, lns, mks⟩ ⟨nm, args⟩ = some ⟨cur, stk, lns, mks ++ [⟨nm, cur.1.1, cur.1.2⟩]⟩ := by
      unfold takeF
      rw [if_neg h70, if_neg h102, if_neg h43, if_neg h45, if_neg h94, if_neg h38, if_neg h33, if_neg h124, if_neg h91, if_neg h93]
    have Htk := Lib.hid htk; clear htk
    have zm : w.heap.size < W.heap.size := Bm.out.lt
    have hrow := PW.out.blk
    unfold stRow at hrow
    have hzg := hrow.lt
    have x0 := hrow.cell 0
    have x1 := hrow.cell 1
    have x2 := hrow.cell 2
    have x3 := hrow.cell 3
    have x9 := hrow.cell 9
    have Hrow := Lib.hid hrow; clear hrow
    go_upto_region 29 with fail
    refine wp_region_float1 129 (.pointer (some ⟨g, 0, none⟩)) 15 [⟨⟨14, 143, 65, #[.int .u8 nm, .int .u8 cur.1.1, .int .i64 cur.1.2.1, .int .i64 cur.1.2.2.1, .int .i64 cur.1.2.2.2]⟩, none, some (142, .agg #[.int .u8 nm, .int .u8 cur.1.1, .int .i64 cur.1.2.1, .int .i64 cur.1.2.2.1, .int .i64 cur.1.2.2.2])⟩] (by kernel_rfl) rfl rfl (by kernel_rfl) (by kernel_rfl) (by kernel_rfl) (fun _ _ _ h => h) (fun _ => rfl) (by kernel_rfl) rfl (by
        intro x hx hn
        rw [List.mem_singleton] at hx
        subst hx
        cases hn) (by
        intro x hx v u h o ho ev hev w0
        rw [List.mem_singleton] at hx
        subst hx
        simp at h
        obtain ⟨rfl, rfl⟩ := h
        injection ho with ho
        subst ho
        exact run_build1 (E := pMk) (z := .agg #[.int .u8 0, .int .u8 0, .int .i64 0, .int .i64 0, .int .i64 0]) (bytes := 40) rfl Tryd.underlying34 (by kernel_rfl) rfl (by decide) (by decide) hev rfl w0) (by
        intro x hx j v row h
        rw [List.mem_singleton] at hx
        subst hx
        cases h) ?_
    apply Exists.intro
    refine And.intro ?walk (And.intro ?vals ?tail)
    case walk =>
      intro W' hW'
      have e0 := cell_regrown ((cell_keep (hW'.block g (by omega))).trans x0)
      have e1 := cell_regrown ((cell_keep (hW'.block g (by omega))).trans x1)
      have e2 := cell_regrown ((cell_keep (hW'.block g (by omega))).trans x2)
      have e3 := cell_regrown ((cell_keep (hW'.block g (by omega))).trans x3)
      have e9 := cell_regrown ((cell_keep (hW'.block g (by omega))).trans x9)
      have em := cell_regrown ((cell_keep (hW'.block w.heap.size (by omega))).trans y0)
      simp only [List.setIfInBounds_toArray, List.set_cons_succ, List.set_cons_zero, virtQ, fltQ, nopT, List.take_succ_cons, List.take_zero, List.drop_succ_cons, List.drop_zero, List.map_cons, List.map_nil, List.cons_append, List.nil_append]
      iterate 19 (go_big_quiet_step (fail))
      exact wpQuiet_nil rfl
    case vals => exact ⟨trivial, rfl, by simp, trivial⟩
    case tail =>
      intro p w6 hbw2 hB2 hD2
      have hB8 := hB2 _ (List.mem_cons_self)
      simp only [Fb.fin] at hB8
      simp only [putsB, Fb.mk', List.drop_succ_cons, List.drop_zero]
      obtain ⟨gn, hgn⟩ : ∃ k, p 14 = k := ⟨_, rfl⟩
      rw [hgn] at hB8 ⊢
      clear hB2 hD2
      obtain ⟨nb, nz⟩ := hB8
      have abz : RowKit.Below W.heap.size W w6 := hbw2
      have np := PW.out.later abz
      have nt := TW.out.trans (abz.mono (Nat.le_of_lt hgW))
      simp only [Act.put]
      have hox := np.om
      have hba : g + 1 ≤ w6.heap.size := np.blk.lt
      have hbk : Blk w6 g 72 _ := np.blk
      have hgn' : some gn ≠ (Value.slice Am mks.length cm).ownBlock := fun he => by have := (PW.out.om.lt _ he.symm).2; omega
      have hR : pMk.R (fun _ => False) w6 (Value.agg #[.int .u8 nm, .int .u8 cur.1.1, .int .i64 cur.1.2.1, .int .i64 cur.1.2.2.1, .int .i64 cur.1.2.2.2]).cells.toList ⟨nm, cur.1.1, cur.1.2⟩ := ⟨rfl, hu8, (tur_R (F := fun _ => False) (w := w6) Hcur.out).2.1, (tur_R (F := fun _ => False) (w := w6) Hcur.out).2.2.1⟩
      refine wpList_app1G (E := pMk) (xs := mks) (v := .slice Am mks.length cm) (base := g + 1) (G := fun _ => False) 34 65 (.agg #[.int .u8 0, .int .u8 0, .int .i64 0, .int .i64 0, .int .i64 0]) 40 (.tmp 134) (.tmp 143) gn rfl rfl Tryd.underlying34 (by kernel_rfl) rfl (by decide) rfl rfl hox (.agg #[.int .u8 nm, .int .u8 cur.1.1, .int .i64 cur.1.2.1, .int .i64 cur.1.2.2.1, .int .i64 cur.1.2.2.2]) nb hgn' ⟨nm, cur.1.1, cur.1.2⟩ (fun _ => False) hR (fun _ h => h.elim) (mks.length + 1) rfl (room_of (by omega)) (by decide) hba ?_
      intro A10 c10 w7 hown7 hg7
      have hbm7 : Blk w7 g 72 _ := hbk.same (hg7.out.oth _ hbk.lt (own_ne hox (Nat.le_refl _)))
      unfold stRow at hbm7
      have z8 := hbm7.cell 9
      have f8 := hbm7.free 9
      have p4 := np.pushM hown7.out hg7.out
      have t4 := (nt.trans (hg7.out.bel.mono (Nat.le_succ _))).setCell (p := ⟨g, 9, none⟩) (Nat.le_refl _) (.slice A10 (mks.length + 1) c10)
      have P4 := Lib.hid p4; clear p4
      have T4 := Lib.hid t4; clear t4
      have Np := Lib.hid np; clear np
      have Nt := Lib.hid nt; clear nt
      have Hbk := Lib.hid hbk; clear hbk
      have Hbm7 := Lib.hid hbm7; clear hbm7
      have Hox := Lib.hid hox; clear hox
      clear nb hgn' hR hbw2 abz hown7 hg7
      go_wp2
      go_end0
      exact takePost_yes Htk.out P4.out T4.out
end Go.Proofs.YtldccpmnboebmaaDoor
