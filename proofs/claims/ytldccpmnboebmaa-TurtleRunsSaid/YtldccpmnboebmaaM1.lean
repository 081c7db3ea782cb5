/-
  Several texts in one.
-/
import Derived.Test.YtldccpmnboebmaaAp
import Derived.Test.YtldccpmnboebmaaAl
import Derived.Test.YtldccpmnboebmaaVx
import Derived.Test.YtldccpmnboebmaaWb
import Derived.Test.YtldccpmnboebmaaWd
import Derived.StillTailTactics
import Derived.Deep.RegionHeld3
import Derived.Lib.QuietBelow
import Derived.Test.YtldccpmnboebmaaVy
import Derived.Test.YtldccpmnboebmaaVc
/-! Aq -/
namespace Go.Proofs.Ytldccpmnboebmaa
open Go.RowKit Go.Sort
set_option linter.unusedVariables false

/-- what stands between two modules -/
structure Rd (w : World) (b : Trop) (gs go : Nat) (K L M : Value) (s : Sta) (wr : World) : Prop where
  rs : RS gs go K L M s wr
  tr : Blk wr (w.heap.size + 1) 49 #[.int .u8 b.1, .int .i64 b.2]
  rz : Blk wr (w.heap.size + 1 + 1) 31 #[.slice none 0 0, .slice none 0 0, .int .u8 0, .int .i64 0, .int .i64 0, .int .i64 0, .int .i64 0]
  bel : RowKit.Below w.heap.size w wr
  hgo : (w.heap.size + 1 + 1) < go
section
variable {w w1 w' : World} {b : Trop} {gs go : Nat} {K L M K' L' M' : Value} {s : Sta}
theorem Rd.later (h : Rd w b gs go K L M s w1) (hb : RowKit.Below w1.heap.size w1 w') : Rd w b gs go K L M s w' :=
  ⟨h.rs.later hb, h.tr.same (hb.block _ h.tr.lt), h.rz.same (hb.block _ h.rz.lt), h.bel.trans (hb.mono h.bel.size), h.hgo⟩
theorem Rd.upd (h : Rd w b gs go K L M s w1) {c : Tur} (hu : Upd gs 91 (sRow c) w1 w') : Rd w b gs go K L M ⟨c, s.stk, s.lns, s.mks⟩ w' := by
  have h1 := h.rs.lt
  have h2 := h.hgo
  exact ⟨h.rs.upd hu, h.tr.same (hu.oth _ h.tr.lt (by omega)), h.rz.same (hu.oth _ h.rz.lt (by omega)), h.bel.trans (hu.bel w.heap.size (by omega) h.bel.size), h.hgo⟩
theorem Rd.grew {U U' : Value} (h : Rd w b gs go K L M s w1) (hl : ∀ k, U.ownBlock = some k → gs + 1 ≤ k) (hg : Grew (gs + 1) w1 w' U U') : Blk w' (w.heap.size + 1) 49 #[.int .u8 b.1, .int .i64 b.2] ∧ Blk w' (w.heap.size + 1 + 1) 31 #[.slice none 0 0, .slice none 0 0, .int .u8 0, .int .i64 0, .int .i64 0, .int .i64 0, .int .i64 0] ∧ RowKit.Below w.heap.size w w' := by
  have h1 := h.rs.lt
  have h2 := h.hgo
  have h3 := h.bel.size
  exact ⟨h.tr.same (hg.oth _ h.tr.lt fun e => by have := hl _ e.symm; omega), h.rz.same (hg.oth _ h.rz.lt fun e => by have := hl _ e.symm; omega), h.bel.trans (hg.bel.mono (by omega))⟩
theorem Rd.pushL (h : Rd w b gs go K L M s w1) {l : Ln} (ho : Own pLn 58 (gs + 1) (fun _ => False) w' L' (s.lns ++ [l])) (hg : Grew (gs + 1) w1 w' L L') : Rd w b gs go K L' M ⟨s.cur, s.stk, s.lns ++ [l], s.mks⟩ (w'.setCell ⟨go, 0, none⟩ L') := by
  have h2 := h.hgo
  obtain ⟨e1, e2, e3⟩ := h.grew (fun k e => (h.rs.ol.lt k e).1) hg
  exact ⟨h.rs.pushL ho hg, blk_off e1 (by omega) _ _, blk_off e2 (by omega) _ _, e3.setCell (p := ⟨go, 0, none⟩) (by show w.heap.size ≤ go; omega) _, h2⟩
theorem Rd.pushM (h : Rd w b gs go K L M s w1) {l : Mk} (ho : Own pMk 67 (gs + 1) (fun _ => False) w' M' (s.mks ++ [l])) (hg : Grew (gs + 1) w1 w' M M') : Rd w b gs go K L M' ⟨s.cur, s.stk, s.lns, s.mks ++ [l]⟩ (w'.setCell ⟨go, 1, none⟩ M') := by
  have h2 := h.hgo
  obtain ⟨e1, e2, e3⟩ := h.grew (fun k e => (h.rs.om.lt k e).1) hg
  exact ⟨h.rs.pushM ho hg, blk_off e1 (by omega) _ _, blk_off e2 (by omega) _ _, e3.setCell (p := ⟨go, 1, none⟩) (by show w.heap.size ≤ go; omega) _, h2⟩
theorem Rd.pushK (h : Rd w b gs go K L M s w1) {c : Tur} (ho : Own pS 91 (gs + 1) (fun _ => False) w' K' (s.stk ++ [c])) (hg : Grew (gs + 1) w1 w' K K') : Rd w b gs go K' L M ⟨s.cur, s.stk ++ [c], s.lns, s.mks⟩ w' := by
  obtain ⟨e1, e2, e3⟩ := h.grew (fun k e => (h.rs.ok.lt k e).1) hg
  exact ⟨h.rs.pushK ho hg, e1, e2, e3, h.hgo⟩
theorem Rd.pop {A : Option Addr} {c : Nat} (h : Rd w b gs go (.slice A s.stk.length c) L M s w1) (hne : s.stk ≠ []) {x : Tur} (hu : Upd gs 91 (sRow x) w1 w') : Rd w b gs go (.slice A (s.stk.length - 1) c) L M ⟨x, s.stk.dropLast, s.lns, s.mks⟩ w' := by
  have h1 := h.upd hu
  exact ⟨h.rs.pop hne hu, h1.tr, h1.rz, h1.bel, h1.hgo⟩
theorem Rd.at (h : Rd w b gs go K L M s w1) {k o : Nat} {v : Value} (hk : k < w.heap.size) (hv : w.cell? ⟨k, o, none⟩ = some v) : w1.cell? ⟨k, o, none⟩ = some v := (cell_keep (h.bel.block k hk)).trans hv
end
/-- what the run so far comes to -/
structure Lq (b : Trop) (t : Tur) (ms : List Mod) (k : Nat) (s : Sta) : Prop where
  l1 : s.stk.length ≤ k
  l2 : s.lns.length ≤ k
  l3 : s.mks.length ≤ k
  run : runF b (beginF t) ms = runF b s (ms.drop k)
  sc : scan s.stk.length (ms.drop k) = some 0
  ok : StaOk s
section
variable {b : Trop} {t : Tur} {ms : List Mod} {k : Nat} {s s' : Sta} {m : Mod}
theorem Lq.next (h : Lq b t ms k s) (hb : 0 ≤ b.1 ∧ b.1 ≤ 5) (hd : ms.drop k = m :: ms.drop (k + 1)) (ht : takeF b s m = some s') : Lq b t ms (k + 1) s' := by
  obtain ⟨i1, i2, i3⟩ := take_grow ht h.l1 h.l2 h.l3
  have hr := h.run
  have hs := h.sc
  rw [hd] at hs
  rw [hd, runF, ht] at hr
  exact ⟨i1, i2, i3, hr, takeF_scan hs ht, takeF_ok h.ok hb ht⟩
theorem Lq.fail (h : Lq b t ms k s) (hd : ms.drop k = m :: ms.drop (k + 1)) (ht : takeF b s m = none) : runF b (beginF t) ms = none := by
  have hr := h.run
  rw [hd, runF, ht] at hr
  exact hr
theorem Lq.pop (h : Lq b t ms k s) (hd : ms.drop k = m :: ms.drop (k + 1)) : m.name = 93 → s.stk ≠ [] := by
  have hs := h.sc
  rw [hd] at hs
  exact takeF_pop (b := b) hs
theorem Lq.fin (h : Lq b t ms k s) (hk : ¬ k < ms.length) : runF b (beginF t) ms = some s := by
  have hr := h.run
  rw [List.drop_eq_nil_of_le (by omega)] at hr
  exact hr
end
theorem in_small4 {v : V3} (h : inV (-1000000) v = true) : smallV 4000000000 v := by
  have := inV_iff.1 h
  exact ⟨⟨by omega, by omega⟩, ⟨by omega, by omega⟩, ⟨by omega, by omega⟩⟩
theorem run_slice2 {P : Program} {t e : TypeId} {s : Nat} (ht : P.underlying t = some (.slice e)) (hs : (P.info? e).map (·.size) = some s) (a : Addr) {n c k : Nat} (hk : k ≤ c) (w : World) :
    (Instr.sliceAt t (.slice (some a) n c) none (some (.int .i64 (k : Int))) none).run P w = .ok (.slice (some a) k c) w := by
  obtain ⟨i, hi, hsz⟩ := Option.map_eq_some_iff.1 hs
  simp [Instr.sliceAt, Instr.slice, run_underlying ht, Instr.sliceBounds, run_sliceBound, sizeOf, typeInfo, hi, hk, Addr.add]
theorem sRow_move (c : Tur) (Q : V3) : ((sRow c).toList.take 0 ++ (#[.int .i64 Q.1, .int .i64 Q.2.1, .int .i64 Q.2.2] : Array Value).toList ++ (sRow c).toList.drop (0 + (#[.int .i64 Q.1, .int .i64 Q.2.1, .int .i64 Q.2.2] : Array Value).size)).toArray = sRow ((c.1.1, Q), c.2) := by
  unfold sRow
  generalize axT c.1.1.toNat = R
  rfl
theorem sRow_set12 (c : Tur) (d : Int) : (sRow c).setIfInBounds 12 (.int .i64 d) = sRow (c.1, d) := by
  unfold sRow
  generalize axT c.1.1.toNat = R
  rfl
theorem sRow_size (c : Tur) : (sRow c).size = 13 := rfl
theorem sRow_one (c : Tur) : (sRow c).all (·.oneCell') = true := by
  unfold sRow
  generalize axT c.1.1.toNat = R
  simp [Value.oneCell']
theorem SlAt.getS {F : Nat → Prop} {w : World} {A : Option Addr} {cap : Nat} {xs : List Tur} (h : SlAt pS F w A cap xs) {i : Nat} (hi : i < xs.length) :
    ∃ b o x, Hid (xs.drop i = x :: xs.drop (i + 1)) ∧ A = some ⟨b, o, none⟩ ∧ F b ∧ ∀ j v, (sRow x).toList[j]? = some v → w.cell? ⟨b, o + i * 13 + j, none⟩ = some v := by
  obtain ⟨b, o, cs, x, h0, h1, h2, ⟨rfl, h3⟩, h4⟩ := h.get hi
  exact ⟨b, o, x, h0, h1, h2, fun j v hv => by simpa [pS] using h4 j v hv⟩
set_option maxRecDepth 100000 in
set_option maxHeartbeats 16000000 in
theorem rRun_calls (A : Option Addr) (c : Nat) (ms : List Mod) (t : Tur) (b : Trop) (w : World) (h : SlAt pMod (Old w) w A c ms) (ht0 : Fits .u8 t.1.1) (hb0 : 0 ≤ b.1) :
    Calls Try.prog 15 #[.slice A ms.length c, .agg #[.int .u8 t.1.1, .int .i64 t.1.2.1, .int .i64 t.1.2.2.1, .int .i64 t.1.2.2.2, .int .i64 t.2], .agg #[.int .u8 b.1, .int .i64 b.2]] w (PlacePost (runT ms t b) w) := by
  have q1 := h.lenle
  obtain ⟨W, hW⟩ : ∃ W, W = ((w.alloc (.cells #[.int .u8 t.1.1, .int .i64 t.1.2.1, .int .i64 t.1.2.2.1, .int .i64 t.1.2.2.2, .int .i64 t.2] 29)).alloc (.cells #[.int .u8 b.1, .int .i64 b.2] 49)).alloc (.cells #[.slice none 0 0, .slice none 0 0, .int .u8 0, .int .i64 0, .int .i64 0, .int .i64 0, .int .i64 0] 31) := ⟨_, rfl⟩
  have zW : W.heap.size = w.heap.size + 3 := by rw [hW]; simp
  have b0 : Blk W w.heap.size 29 #[.int .u8 t.1.1, .int .i64 t.1.2.1, .int .i64 t.1.2.2.1, .int .i64 t.1.2.2.2, .int .i64 t.2] := by rw [hW]; exact ((Blk.new w _ _).alloc _).alloc _
  have b1 : Blk W (w.heap.size + 1) 49 #[.int .u8 b.1, .int .i64 b.2] := by
    rw [hW]
    have := (Blk.new (w.alloc (.cells #[.int .u8 t.1.1, .int .i64 t.1.2.1, .int .i64 t.1.2.2.1, .int .i64 t.1.2.2.2, .int .i64 t.2] 29)) 49 #[.int .u8 b.1, .int .i64 b.2]).alloc (.cells #[.slice none 0 0, .slice none 0 0, .int .u8 0, .int .i64 0, .int .i64 0, .int .i64 0, .int .i64 0] 31)
    simpa using this
  have b2 : Blk W (w.heap.size + 1 + 1) 31 #[.slice none 0 0, .slice none 0 0, .int .u8 0, .int .i64 0, .int .i64 0, .int .i64 0, .int .i64 0] := by
    rw [hW]
    have := Blk.new ((w.alloc (.cells #[.int .u8 t.1.1, .int .i64 t.1.2.1, .int .i64 t.1.2.2.1, .int .i64 t.1.2.2.2, .int .i64 t.2] 29)).alloc (.cells #[.int .u8 b.1, .int .i64 b.2] 49)) 31 #[.slice none 0 0, .slice none 0 0, .int .u8 0, .int .i64 0, .int .i64 0, .int .i64 0, .int .i64 0]
    simpa using this
  have t0 : RowKit.Below w.heap.size w W := by rw [hW]; exact al3
  have f1 := fun W' (hb : RowKit.Below w.heap.size w W') => refCheck_calls A c ms W' (h.later hb)
  have f2 := fun W' => rFCheck_calls t.1 W'
  have p1 := @runT_e1 ms t b
  have p2 := @runT_e2 ms t b
  have p3 := @runT_e3 ms t b
  have p4 := @runT_e4 ms t b
  have p5 := @scan_zero ms
  unfold CheckPost at f1
  obtain ⟨z, hz⟩ : ∃ z, checkF ms = z := ⟨_, rfl⟩
  rw [hz] at f1 p1 p2 p3 p4 p5
  obtain ⟨zf, hzf⟩ : ∃ z, checkFr t.1 = z := ⟨_, rfl⟩
  rw [hzf] at f2 p2 p3 p4
  have B0 := Lib.hid b0; clear b0
  have B1 := Lib.hid b1; clear b1
  have B2 := Lib.hid b2; clear b2
  have T0 := Lib.hid t0; clear t0
  have H := Lib.hid h; clear h
  have F1 := Lib.hid f1; clear f1
  have F2 := Lib.hid f2; clear f2
  have P1 := Lib.hid p1; clear p1
  have P2 := Lib.hid p2; clear p2
  have P3 := Lib.hid p3; clear p3
  have P4 := Lib.hid p4; clear p4
  have P5 := Lib.hid p5; clear p5
  have Hz := Lib.hid hz; clear hz
  go_enter Try.func15, Try.ntmps15
  generalize hBP : bodyPost _ _ _ = BP
  go_wp2_with fail
  (try rw [← hW])
  refine (F1.out _ T0.out).mono ?_
  rintro e w1 ⟨rfl, d1⟩
  have k0 := B0.out.same (d1.block _ B0.out.lt)
  have k1 := B1.out.same (d1.block _ B1.out.lt)
  have k2 := B2.out.same (d1.block _ B2.out.lt)
  have t1 := T0.out.trans (d1.mono T0.out.size)
  have zw1 := d1.size
  clear d1 hW
  by_cases h0 : z = 0
  case neg =>
    have h0' : (z != 0) = true := by simpa using h0
    have hr1 := P1.out h0
    have T1 := Lib.hid t1; clear t1
    have K0 := Lib.hid k0; clear k0
    have K1 := Lib.hid k1; clear k1
    have K2 := Lib.hid k2; clear k2
    go_wp2_with fail
    refine (F1.out _ T1.out).mono ?_
    rintro e w9 ⟨rfl, d9⟩
    have k2 := K2.out.same (d9.block _ K2.out.lt)
    have t9 := T1.out.trans (d9.mono T1.out.size)
    clear d9
    have k2z := k2
    have ztz := t9.size
    have k2y := blk_row (cs := #[.slice none 0 0, .slice none 0 0, .int .u8 0, .int .i64 0, .int .i64 0, .int .i64 0, .int .i64 0]) k2z
    have t2y := row_below (g := (w.heap.size + 1 + 1)) t9 (by omega) #[.slice none 0 0, .slice none 0 0, .int .u8 0, .int .i64 0, .int .i64 0, .int .i64 0, .int .i64 0]
    have Hr1 := Lib.hid hr1; clear hr1
    have K2y := Lib.hid k2y; clear k2y
    have T2y := Lib.hid t2y; clear t2y
    go_wp2_with ((with_reducible show wpList _ _ _ (Oper.mk none _ _ _ _ _ :: _) _ _); refine wpList_storeG 31 (.tmp 6) (.tmp 17) _ #[.slice none 0 0, .slice none 0 0, .int .u8 0, .int .i64 0, .int .i64 0, .int .i64 0, .int .i64 0] rfl rfl rfl rfl k2z (by kernel_rfl) rfl (by simp [Value.oneCell']) rfl ?_)
    subst hBP
    refine bodyPost_ret (results_vec_tmp rfl _ _ _ (w.heap.size + 1 + 1) 31 _ rfl K2y.out Try.underlying31 (by kernel_rfl)) rfl ?_
    exact placePost_zero Hr1.out T2y.out
  case pos =>
  subst h0
  have e2 := P2.out rfl
  have e3 := P3.out rfl
  have e4 := P4.out rfl
  obtain ⟨hlen, hall, hscan⟩ := P5.out rfl
  have y0 := k0.cell 0
  have y1 := k0.cell 1
  have y2 := k0.cell 2
  have y3 := k0.cell 3
  have K0 := Lib.hid k0; clear k0
  have K1 := Lib.hid k1; clear k1
  have K2 := Lib.hid k2; clear k2
  have T1 := Lib.hid t1; clear t1
  have E2 := Lib.hid e2; clear e2
  have E3 := Lib.hid e3; clear e3
  have E4 := Lib.hid e4; clear e4
  have Hall := Lib.hid hall; clear hall
  have Hscan := Lib.hid hscan; clear hscan
  go_wp2_with fail
  refine (F2.out _).mono ?_
  rintro e w2 ⟨rfl, d2⟩
  have k0 := K0.out.same (d2.block _ K0.out.lt)
  have k1 := K1.out.same (d2.block _ K1.out.lt)
  have k2 := K2.out.same (d2.block _ K2.out.lt)
  have t2 := T1.out.trans (d2.mono T1.out.size)
  have zw2 := d2.size
  have y4 := k0.cell 4
  clear y0 y1 y2 y3 d2
  by_cases hbad : ¬ (zf = 0 ∧ 0 ≤ t.2 ∧ t.2 ≤ 1000000)
  case pos =>
    have hr1 := E2.out hbad
    rcases (show (zf ≠ 0) ∨ (zf = 0 ∧ t.2 < 0) ∨ (zf = 0 ∧ ¬ t.2 < 0 ∧ 1000000 < t.2) from by omega) with c1 | ⟨c1, c2⟩ | ⟨c1, c2, c3⟩
    · skip
      have c1b : (zf != 0) = true := by simpa using c1
      clear hbad
      have k2z := k2
      have ztz := t2.size
      have k2y := blk_row (cs := #[.slice none 0 0, .slice none 0 0, .int .u8 0, .int .i64 0, .int .i64 0, .int .i64 0, .int .i64 0]) k2z
      have t2y := row_below (g := (w.heap.size + 1 + 1)) t2 (by omega) #[.slice none 0 0, .slice none 0 0, .int .u8 0, .int .i64 0, .int .i64 0, .int .i64 0, .int .i64 0]
      have Hr1 := Lib.hid hr1; clear hr1
      have K2y := Lib.hid k2y; clear k2y
      have T2y := Lib.hid t2y; clear t2y
      go_wp2_with ((with_reducible show wpList _ _ _ (Oper.mk none _ _ _ _ _ :: _) _ _); refine wpList_storeG 31 (.tmp 6) (.tmp 34) _ #[.slice none 0 0, .slice none 0 0, .int .u8 0, .int .i64 0, .int .i64 0, .int .i64 0, .int .i64 0] rfl rfl rfl rfl k2z (by kernel_rfl) rfl (by simp [Value.oneCell']) rfl ?_)
      subst hBP
      refine bodyPost_ret (results_vec_tmp rfl _ _ _ (w.heap.size + 1 + 1) 31 _ rfl K2y.out Try.underlying31 (by kernel_rfl)) rfl ?_
      exact placePost_zero Hr1.out T2y.out
    · skip
      have c1b : (zf != 0) = false := by simpa using c1
      clear hbad
      have k2z := k2
      have ztz := t2.size
      have k2y := blk_row (cs := #[.slice none 0 0, .slice none 0 0, .int .u8 0, .int .i64 0, .int .i64 0, .int .i64 0, .int .i64 0]) k2z
      have t2y := row_below (g := (w.heap.size + 1 + 1)) t2 (by omega) #[.slice none 0 0, .slice none 0 0, .int .u8 0, .int .i64 0, .int .i64 0, .int .i64 0, .int .i64 0]
      have Hr1 := Lib.hid hr1; clear hr1
      have K2y := Lib.hid k2y; clear k2y
      have T2y := Lib.hid t2y; clear t2y
      go_wp2_with ((with_reducible show wpList _ _ _ (Oper.mk none _ _ _ _ _ :: _) _ _); refine wpList_storeG 31 (.tmp 6) (.tmp 34) _ #[.slice none 0 0, .slice none 0 0, .int .u8 0, .int .i64 0, .int .i64 0, .int .i64 0, .int .i64 0] rfl rfl rfl rfl k2z (by kernel_rfl) rfl (by simp [Value.oneCell']) rfl ?_)
      subst hBP
      refine bodyPost_ret (results_vec_tmp rfl _ _ _ (w.heap.size + 1 + 1) 31 _ rfl K2y.out Try.underlying31 (by kernel_rfl)) rfl ?_
      exact placePost_zero Hr1.out T2y.out
    · skip
      have c1b : (zf != 0) = false := by simpa using c1
      clear hbad
      have k2z := k2
      have ztz := t2.size
      have k2y := blk_row (cs := #[.slice none 0 0, .slice none 0 0, .int .u8 0, .int .i64 0, .int .i64 0, .int .i64 0, .int .i64 0]) k2z
      have t2y := row_below (g := (w.heap.size + 1 + 1)) t2 (by omega) #[.slice none 0 0, .slice none 0 0, .int .u8 0, .int .i64 0, .int .i64 0, .int .i64 0, .int .i64 0]
      have Hr1 := Lib.hid hr1; clear hr1
      have K2y := Lib.hid k2y; clear k2y
      have T2y := Lib.hid t2y; clear t2y
      go_wp2_with ((with_reducible show wpList _ _ _ (Oper.mk none _ _ _ _ _ :: _) _ _); refine wpList_storeG 31 (.tmp 6) (.tmp 34) _ #[.slice none 0 0, .slice none 0 0, .int .u8 0, .int .i64 0, .int .i64 0, .int .i64 0, .int .i64 0] rfl rfl rfl rfl k2z (by kernel_rfl) rfl (by simp [Value.oneCell']) rfl ?_)
      subst hBP
      refine bodyPost_ret (results_vec_tmp rfl _ _ _ (w.heap.size + 1 + 1) 31 _ rfl K2y.out Try.underlying31 (by kernel_rfl)) rfl ?_
      exact placePost_zero Hr1.out T2y.out
  case neg =>
  obtain ⟨g1, g2, g3⟩ := Classical.not_not.1 hbad
  clear hbad
  subst g1
  have e3b := E3.out ⟨rfl, g2, g3⟩
  have e4b := E4.out ⟨rfl, g2, g3⟩
  have g2' : ¬ t.2 < 0 := by omega
  have g3' : ¬ 1000000 < t.2 := by omega
  have x0 := k1.cell 0
  have x1 := k1.cell 1
  by_cases hbad : ¬ (b.1 ≤ 5 ∧ 0 ≤ b.2 ∧ b.2 ≤ 1000000)
  case pos =>
    have hr1 := e3b hbad
    have E3b := Lib.hid e3b; clear e3b
    have E4b := Lib.hid e4b; clear e4b
    rcases (show (5 < b.1) ∨ (¬ 5 < b.1 ∧ b.2 < 0) ∨ (¬ 5 < b.1 ∧ ¬ b.2 < 0 ∧ 1000000 < b.2) from by omega) with c1 | ⟨c1, c2⟩ | ⟨c1, c2, c3⟩
    · skip
      clear hbad
      have k2z := k2
      have ztz := t2.size
      have k2y := blk_row (cs := #[.slice none 0 0, .slice none 0 0, .int .u8 0, .int .i64 0, .int .i64 0, .int .i64 0, .int .i64 0]) k2z
      have t2y := row_below (g := (w.heap.size + 1 + 1)) t2 (by omega) #[.slice none 0 0, .slice none 0 0, .int .u8 0, .int .i64 0, .int .i64 0, .int .i64 0, .int .i64 0]
      have Hr1 := Lib.hid hr1; clear hr1
      have K2y := Lib.hid k2y; clear k2y
      have T2y := Lib.hid t2y; clear t2y
      go_wp2_with ((with_reducible show wpList _ _ _ (Oper.mk none _ _ _ _ _ :: _) _ _); refine wpList_storeG 31 (.tmp 6) (.tmp 48) _ #[.slice none 0 0, .slice none 0 0, .int .u8 0, .int .i64 0, .int .i64 0, .int .i64 0, .int .i64 0] rfl rfl rfl rfl k2z (by kernel_rfl) rfl (by simp [Value.oneCell']) rfl ?_)
      subst hBP
      refine bodyPost_ret (results_vec_tmp rfl _ _ _ (w.heap.size + 1 + 1) 31 _ rfl K2y.out Try.underlying31 (by kernel_rfl)) rfl ?_
      exact placePost_zero Hr1.out T2y.out
    · skip
      clear hbad
      have k2z := k2
      have ztz := t2.size
      have k2y := blk_row (cs := #[.slice none 0 0, .slice none 0 0, .int .u8 0, .int .i64 0, .int .i64 0, .int .i64 0, .int .i64 0]) k2z
      have t2y := row_below (g := (w.heap.size + 1 + 1)) t2 (by omega) #[.slice none 0 0, .slice none 0 0, .int .u8 0, .int .i64 0, .int .i64 0, .int .i64 0, .int .i64 0]
      have Hr1 := Lib.hid hr1; clear hr1
      have K2y := Lib.hid k2y; clear k2y
      have T2y := Lib.hid t2y; clear t2y
      go_wp2_with ((with_reducible show wpList _ _ _ (Oper.mk none _ _ _ _ _ :: _) _ _); refine wpList_storeG 31 (.tmp 6) (.tmp 48) _ #[.slice none 0 0, .slice none 0 0, .int .u8 0, .int .i64 0, .int .i64 0, .int .i64 0, .int .i64 0] rfl rfl rfl rfl k2z (by kernel_rfl) rfl (by simp [Value.oneCell']) rfl ?_)
      subst hBP
      refine bodyPost_ret (results_vec_tmp rfl _ _ _ (w.heap.size + 1 + 1) 31 _ rfl K2y.out Try.underlying31 (by kernel_rfl)) rfl ?_
      exact placePost_zero Hr1.out T2y.out
    · skip
      clear hbad
      have k2z := k2
      have ztz := t2.size
      have k2y := blk_row (cs := #[.slice none 0 0, .slice none 0 0, .int .u8 0, .int .i64 0, .int .i64 0, .int .i64 0, .int .i64 0]) k2z
      have t2y := row_below (g := (w.heap.size + 1 + 1)) t2 (by omega) #[.slice none 0 0, .slice none 0 0, .int .u8 0, .int .i64 0, .int .i64 0, .int .i64 0, .int .i64 0]
      have Hr1 := Lib.hid hr1; clear hr1
      have K2y := Lib.hid k2y; clear k2y
      have T2y := Lib.hid t2y; clear t2y
      go_wp2_with ((with_reducible show wpList _ _ _ (Oper.mk none _ _ _ _ _ :: _) _ _); refine wpList_storeG 31 (.tmp 6) (.tmp 48) _ #[.slice none 0 0, .slice none 0 0, .int .u8 0, .int .i64 0, .int .i64 0, .int .i64 0, .int .i64 0] rfl rfl rfl rfl k2z (by kernel_rfl) rfl (by simp [Value.oneCell']) rfl ?_)
      subst hBP
      refine bodyPost_ret (results_vec_tmp rfl _ _ _ (w.heap.size + 1 + 1) 31 _ rfl K2y.out Try.underlying31 (by kernel_rfl)) rfl ?_
      exact placePost_zero Hr1.out T2y.out
  case neg =>
  obtain ⟨j1, j2, j3⟩ := Classical.not_not.1 hbad
  clear hbad
  obtain ⟨e5, e6⟩ := e4b ⟨j1, j2, j3⟩
  clear e3b e4b
  have j1' : ¬ 5 < b.1 := by omega
  have j2' : ¬ b.2 < 0 := by omega
  have j3' : ¬ 1000000 < b.2 := by omega
  have hokT : TurOk t := ⟨ht0.u8.1, hzf, g2, g3⟩
  obtain ⟨w3, hw3⟩ : ∃ W, W = w2.alloc (.cells #[.slice none 0 0, .slice none 0 0, .int .u8 0, .int .i64 0, .int .i64 0, .int .i64 0, .int .i64 0] 31) := ⟨_, rfl⟩
  obtain ⟨go, hgo⟩ : ∃ k, k = w2.heap.size := ⟨_, rfl⟩
  have kO : Blk w3 go 31 #[.slice none 0 0, .slice none 0 0, .int .u8 0, .int .i64 0, .int .i64 0, .int .i64 0, .int .i64 0] := by rw [hw3, hgo]; exact Blk.new _ _ _
  have ab : RowKit.Below w2.heap.size w2 w3 := by rw [hw3]; exact al1
  have k0' := k0.same (ab.block _ k0.lt)
  have k1' := k1.same (ab.block _ k1.lt)
  have k2' := k2.same (ab.block _ k2.lt)
  have t3 := t2.trans (ab.mono t2.size)
  have hg2o : (w.heap.size + 1 + 1) < go := by rw [hgo]; exact k2.lt
  have cb := begin_calls t w3 hokT
  have y0 := k0'.cell 0
  have y1 := k0'.cell 1
  have y2 := k0'.cell 2
  have y3 := k0'.cell 3
  have z0 := k0.cell 0
  have z1 := k0.cell 1
  have z2 := k0.cell 2
  have z3 := k0.cell 3
  have z4 := y4
  clear y4
  have y4 := k0'.cell 4
  clear ab k0 k1 k2 t2
  have K0' := Lib.hid k0'; clear k0'
  have K1' := Lib.hid k1'; clear k1'
  have K2' := Lib.hid k2'; clear k2'
  have KO := Lib.hid kO; clear kO
  have T3 := Lib.hid t3; clear t3
  have E5 := Lib.hid e5; clear e5
  have E6 := Lib.hid e6; clear e6
  have HokT := Lib.hid hokT; clear hokT
  have Cb := Lib.hid cb; clear cb
  go_upto_region 8 with fail
  rw [← hw3, ← hgo]
  clear hw3 hgo z0 z1 z2 z3 z4 x0 x1
  go_wp2_with fail
  refine Cb.out.mono ?_
  rintro e w4 ⟨gs, rfl, bS, hgs, d4⟩
  have hgs' : go < gs := Nat.lt_of_lt_of_le KO.out.lt hgs
  have rd0 : Rd w b gs go (.slice none 0 0) (.slice none 0 0) (.slice none 0 0) (beginF t) w4 := ⟨⟨bS, KO.out.same (d4.block _ KO.out.lt), Own.nil, Own.nil, Own.nil, (by intro k hk; cases hk), (by intro k hk; cases hk), (by intro k hk; cases hk), hgs'⟩, K1'.out.same (d4.block _ K1'.out.lt), K2'.out.same (d4.block _ K2'.out.lt), T3.out.trans (d4.mono T3.out.size), hg2o⟩
  have lq0 : Lq b t ms 0 (beginF t) := ⟨Nat.le_refl _, Nat.le_refl _, Nat.le_refl _, rfl, Hscan.out, ⟨HokT.out, fun c hc => absurd hc List.not_mem_nil⟩⟩
  clear y0 y1 y2 y3 y4 bS d4
  have Rd0 := Lib.hid rd0; clear rd0
  have Lq0 := Lib.hid lq0; clear lq0
  go_wp2
  go_loopw [11, 10] (fun i n wr => ∃ (k : Nat) (s : Sta) (A1 : Option Addr) (c1 : Nat), k ≤ ms.length ∧ i = .int .i64 k ∧ n = .slice A1 s.stk.length c1 ∧ Hid (Lq b t ms k s) ∧ Hid (∃ L M, Rd w b gs go (.slice A1 s.stk.length c1) L M s wr)) (fun i _ _ => ms.length - (intOf i).toNat)
  case atStart => exact ⟨0, beginF t, none, 0, Nat.zero_le _, rfl, rfl, Lq0.out, _, _, Rd0.out⟩
  case round =>
    obtain ⟨k, s, Ak, ck, hk, rfl, rfl, hlq, hrd⟩ := hrel
    obtain ⟨wo, rfl⟩ : ∃ wo : World, wo = wr := ⟨_, rfl⟩
    obtain ⟨L, M, rd⟩ := hrd.out
    clear hrd
    by_cases hlt : k < ms.length
    case pos =>
      obtain ⟨bb, oo, A', c', m, hd, rfl, hob, m0, m1, hu8, hma, hml⟩ := H.out.getMod hlt
      have hfm : fineF m = true := List.all_eq_true.1 Hall.out m (mem_of_drop hd.out)
      have hpop := hlq.out.pop hd.out
      have hfail := hlq.out.fail hd.out
      have hnext := fun s' => hlq.out.next (s' := s') ⟨hb0, j1⟩ hd.out
      have hok := hlq.out.ok
      have l1 := hlq.out.l1
      have l2 := hlq.out.l2
      have l3 := hlq.out.l3
      have hsn := stepN_le hfm
      have ma := hma.out.keep fun q hq => rd.bel.block q hq
      have st := steps_calls m A' c' wo ma (fun q hq => Nat.lt_of_lt_of_le hq rd.bel.size)
      have hob' : bb < w.heap.size := hob
      have x0 := rd.at hob' m0
      have x1 := rd.at hob' m1
      obtain ⟨n, hn⟩ : ∃ n, stepN m = n := ⟨_, rfl⟩
      rw [hn] at st hsn
      obtain ⟨Ll, cl, rfl, sl⟩ := rd.rs.ol.sl
      obtain ⟨Am, cm, rfl, sm⟩ := rd.rs.om.sl
      obtain ⟨Az, cz, hz9, sk⟩ := rd.rs.ok.sl
      injection hz9 with i1 i2 i3
      subst i1 i3
      clear i2
      have Rd := Lib.hid rd; clear rd
      have St := Lib.hid st; clear st
      have Hpop := Lib.hid hpop; clear hpop
      have Hfail := Lib.hid hfail; clear hfail
      have Hnext := Lib.hid hnext; clear hnext
      have Hok := Lib.hid hok; clear hok
      have Hma := Lib.hid hma; clear hma
      have Sl := Lib.hid sl; clear sl
      have Sm := Lib.hid sm; clear sm
      have Sk := Lib.hid sk; clear sk
      have Hfm := Lib.hid hfm; clear hfm
      have Hd := Lib.hid hd; clear hd
      have Hn := Lib.hid hn; clear hn
      clear hlq ma
      go_wp2_with fail
      refine St.out.mono ?_
      rintro e w5 ⟨rfl, d5⟩
      have r5 := Rd.out.later d5
      clear x0 x1 m1 d5
      have x0 := r5.at hob' m0
      obtain ⟨nm, args⟩ := m
      obtain ⟨cur, stk, lns, mks⟩ := s
      have hok' := Hok.out
      have hcur : TurOk cur := hok'.cur
      have hd0 := hcur.d0
      have hd1 := hcur.d1
      have hbs := r5.rs.st
      have hzg := hbs.lt
      have hbo := r5.rs.ot
      have hgg := r5.rs.lt
      have hbz := r5.bel.size
      simp only at x0 hu8 l1 l2 l3 r5 hbs hbo
      have hnm : stepN ⟨nm, args⟩ = n := Hn.out
      have R5 := Lib.hid r5; clear r5
      have Hcur := Lib.hid hcur; clear hcur
      have Hok' := Lib.hid hok'; clear hok'
      have Hnm := Lib.hid hnm; clear hnm
      go_upto_region 14 with fail
      by_cases hmv : nm = 70 ∨ nm = 102
      case pos =>
        unfold sRow at hbs
        have v0 := hbs.cell 0
        have v1 := hbs.cell 1
        have v2 := hbs.cell 2
        have v3 := hbs.cell 3
        have v4 := hbs.cell 4
        have v5 := hbs.cell 5
        obtain ⟨w6, hw6⟩ : ∃ W, W = (w5.alloc (.cells #[.int .i64 0, .int .i64 0, .int .i64 0] 25)).setRow w5.heap.size #[.int .i64 cur.1.2.1, .int .i64 cur.1.2.2.1, .int .i64 cur.1.2.2.2] := ⟨_, rfl⟩
        obtain ⟨g13, hg13⟩ : ∃ k, k = w5.heap.size := ⟨_, rfl⟩
        have nb0 := Blk.new w5 25 #[.int .i64 0, .int .i64 0, .int .i64 0]
        have n13 : Blk w6 g13 25 #[.int .i64 cur.1.2.1, .int .i64 cur.1.2.2.1, .int .i64 cur.1.2.2.2] := by rw [hw6, hg13]; exact blk_row nb0
        have d6 : RowKit.Below w5.heap.size w5 w6 := by rw [hw6]; exact row_below al1 (Nat.le_refl _) _
        have r6 := R5.out.later d6
        have e6m : (nm == 70 || nm == 102) = true := by rcases hmv with rfl | rfl <;> rfl
        have hax : ∃ V, mulV n (axT cur.1.1.toNat).1 = V := ⟨_, rfl⟩
        obtain ⟨V, hV⟩ := hax
        obtain ⟨Q, hQ⟩ : ∃ Q, addV cur.1.2 V = Q := ⟨_, rfl⟩
        have hah : aheadF n cur.1 = (cur.1.1, Q) := by unfold aheadF; rw [hV, hQ]
        have hua : unitV (axT cur.1.1.toNat).1 = true := (unitM_at (axT_unit ⟨_, Hcur.out.lt⟩)).1
        have cti := fun W' => timesB_calls n hsn (axT cur.1.1.toNat).1 W' hua
        have cpl := fun W' => plus2_calls cur.1.2 V W' (in_small4 (checkFr_ok Hcur.out.ck).2) (by rw [← hV]; exact mul_smallB hsn hua)
        rw [hV] at cti
        rw [hQ] at cpl
        have hbs6 := r6.rs.st
        unfold sRow at hbs6
        have hz6 := hbs6.lt
        have n0 := hbs6.cell 0
        have n1 := hbs6.cell 1
        have n2 := hbs6.cell 2
        have n3 := hbs6.cell 3
        have n4 := hbs6.cell 4
        have n5 := hbs6.cell 5
        have N13 := Lib.hid n13; clear n13
        have R6 := Lib.hid r6; clear r6
        have HV := Lib.hid hV; clear hV
        have HQ := Lib.hid hQ; clear hQ
        have Hah := Lib.hid hah; clear hah
        have Hua := Lib.hid hua; clear hua
        have Cti := Lib.hid cti; clear cti
        have Cpl := Lib.hid cpl; clear cpl
        have Hbs6 := Lib.hid hbs6; clear hbs6
        have dmv : nm = 70 ∨ ¬ nm = 70 ∧ nm = 102 := by omega
        rcases dmv with h70 | ⟨h70, h102⟩
        · skip
          subst h70
          have htk0 : takeF b ⟨cur, stk, lns, mks⟩ ⟨70, args⟩ = (if inV (-1000000) Q = true then
                (if 1000000 < cur.2 + 1 then none
                 else some ⟨bendF b ((cur.1.1, Q), cur.2 + 1), stk, lns ++ [⟨cur.1.2, Q, stk.length⟩], mks⟩)
               else none) := by unfold takeF; rw [if_pos rfl, Hnm.out, Hah.out]
          have Htk0 := Lib.hid htk0; clear htk0
          go_upto_region 19 with ((with_reducible show wpList _ _ _ (Oper.mk none _ _ _ _ _ :: _) _ _); refine wpList_storeG 25 (.tmp 13) (.tmp 86) _ #[.int .i64 cur.1.2.1, .int .i64 cur.1.2.2.1, .int .i64 cur.1.2.2.2] rfl rfl rfl rfl nb0 (by kernel_rfl) rfl (by simp [Value.oneCell']) rfl ?_)
          rw [← hw6, ← hg13]
          have hgn13 : gs < g13 := by omega
          clear v0 v1 v2 v3 v4 v5 hw6 nb0 hg13
          refine wp_region_floatT 13 [] (by kernel_rfl) (by kernel_rfl) rfl (fun x hx => absurd hx List.not_mem_nil) (fun x hx => absurd hx List.not_mem_nil) (fun x hx => absurd hx List.not_mem_nil) ?_
          apply Exists.intro
          refine And.intro ?walk (And.intro ?vals ?tail)
          case walk =>
            intro W' hW'
            have e0 := cell_regrown ((cell_keep (hW'.block gs hz6)).trans n0)
            have e1 := cell_regrown ((cell_keep (hW'.block gs hz6)).trans n1)
            have e2 := cell_regrown ((cell_keep (hW'.block gs hz6)).trans n2)
            have e3 := cell_regrown ((cell_keep (hW'.block gs hz6)).trans n3)
            have e4 := cell_regrown ((cell_keep (hW'.block gs hz6)).trans n4)
            have e5 := cell_regrown ((cell_keep (hW'.block gs hz6)).trans n5)
            have si : ∀ q os, Calls Try.prog 35 #[.int .i64 n, .agg #[.int .i64 (axT cur.1.1.toNat).1.1, .int .i64 (axT cur.1.1.toNat).1.2.1, .int .i64 (axT cur.1.1.toNat).1.2.2]] (grow (redrawn W' q) os) fun e w'' => e = .returned (.agg #[.int .i64 V.1, .int .i64 V.2.1, .int .i64 V.2.2]) ∧ ∃ p : Regrown, w'' = grow (redrawn W' p.d) p.os := fun q os => Calls.regrown_of (Cti.out _)
            have sj : ∀ q os, Calls Try.prog 34 #[.agg #[.int .i64 cur.1.2.1, .int .i64 cur.1.2.2.1, .int .i64 cur.1.2.2.2], .agg #[.int .i64 V.1, .int .i64 V.2.1, .int .i64 V.2.2]] (grow (redrawn W' q) os) fun e w'' => e = .returned (.agg #[.int .i64 Q.1, .int .i64 Q.2.1, .int .i64 Q.2.2]) ∧ ∃ p : Regrown, w'' = grow (redrawn W' p.d) p.os := fun q os => Calls.regrown_of (Cpl.out _)
            have Si := Lib.hid si; clear si
            have Sj := Lib.hid sj; clear sj
            simp only [virtQ, fltQ, nopT, List.take_succ_cons, List.take_zero, List.drop_succ_cons, List.drop_zero, List.map_cons, List.map_nil, List.cons_append, List.nil_append]
            iterate 12 (go_big_quiet_step (exact (Si.out _ _).mono fun e w'' h => h))
            iterate 1 (go_big_quiet_step (exact (Sj.out _ _).mono fun e w'' h => h))
            iterate 3 (go_big_quiet_step (fail))
            exact wpQuiet_nil rfl
          case vals => trivial
          case tail =>
            intro pf w10 hbw2 _ _
            simp only [putsB, List.drop_succ_cons, List.drop_zero]
            have r10 := R6.out.later hbw2
            have n10 := N13.out.same (hbw2.block _ N13.out.lt)
            have hb10 := r10.rs.st
            have u11 := (Upd.refl hb10).setRow (sRow ((cur.1.1, Q), cur.2))
            have r11 := r10.upd u11
            have n11 := n10.same (u11.oth _ n10.lt (by omega))
            obtain ⟨w11, hw11⟩ : ∃ W, W = w10.setRow gs (sRow ((cur.1.1, Q), cur.2)) := ⟨_, rfl⟩
            rw [← hw11] at r11 n11
            have hb11 := r11.rs.st
            unfold sRow at hb11
            simp only at hb11
            have a0 := hb11.cell 0
            have a1 := hb11.cell 1
            have a2 := hb11.cell 2
            have cin := rIn_calls Q w11
            obtain ⟨bv, hbv⟩ : ∃ v, inV (-1000000) Q = v := ⟨_, rfl⟩
            rw [hbv] at cin
            clear n0 n1 n2 n3 n4 n5 hbw2 u11 x0
            have R10 := Lib.hid r10; clear r10
            have N10 := Lib.hid n10; clear n10
            have R11 := Lib.hid r11; clear r11
            have N11 := Lib.hid n11; clear n11
            have Hb11 := Lib.hid hb11; clear hb11
            have Cin := Lib.hid cin; clear cin
            have Hbv := Lib.hid hbv; clear hbv
            go_upto_region 20 with ((with_reducible show wpList _ _ _ (Oper.mk none _ _ _ _ _ :: _) _ _); refine wpList_storeAtG 25 (.tmp 101) (.tmp 99) 0 _ #[.int .i64 Q.1, .int .i64 Q.2.1, .int .i64 Q.2.2] (sRow ((cur.1.1, Q), cur.2)) rfl rfl rfl rfl hb10 (by kernel_rfl) (by rw [sRow_size]; simp) (by simp [Value.oneCell']) (sRow_move cur Q) rfl ?_)
            rw [← hw11]
            clear hw11 hb10
            go_wp2_with fail
            refine Cin.out.mono ?_
            rintro e w12 ⟨rfl, d12⟩
            have r12 := R11.out.later d12
            have n12 := N11.out.same (d12.block _ N11.out.lt)
            have hbm := r12.bel.size
            clear a0 a1 a2 d12
            cases bv
            case false =>
              have hno : takeF b ⟨cur, stk, lns, mks⟩ ⟨70, args⟩ = none := Htk0.out.trans (if_neg (by rw [Hbv.out]; decide))
              have hr1 := E5.out (Hfail.out hno)
              have R12 := Lib.hid r12; clear r12
              have N12 := Lib.hid n12; clear n12
              have k2z := R12.out.rz
              have ztz := R12.out.bel.size
              have k2y := blk_row (cs := #[.slice none 0 0, .slice none 0 0, .int .u8 0, .int .i64 0, .int .i64 0, .int .i64 0, .int .i64 0]) k2z
              have t2y := row_below (g := (w.heap.size + 1 + 1)) R12.out.bel (by omega) #[.slice none 0 0, .slice none 0 0, .int .u8 0, .int .i64 0, .int .i64 0, .int .i64 0, .int .i64 0]
              have Hr1 := Lib.hid hr1; clear hr1
              have K2y := Lib.hid k2y; clear k2y
              have T2y := Lib.hid t2y; clear t2y
              go_wp2_with ((with_reducible show wpList _ _ _ (Oper.mk none _ _ _ _ _ :: _) _ _); refine wpList_storeG 31 (.tmp 6) (.tmp 108) _ #[.slice none 0 0, .slice none 0 0, .int .u8 0, .int .i64 0, .int .i64 0, .int .i64 0, .int .i64 0] rfl rfl rfl rfl k2z (by kernel_rfl) rfl (by simp [Value.oneCell']) rfl ?_)
              subst hBP
              refine bodyPost_ret (results_vec_tmp rfl _ _ _ (w.heap.size + 1 + 1) 31 _ rfl K2y.out Try.underlying31 (by kernel_rfl)) rfl ?_
              exact placePost_zero Hr1.out T2y.out
            case true =>
              have x0 := r12.at hob' m0
              have htk1 := Htk0.out.trans (if_pos Hbv.out)
              have hb12 := r12.rs.st
              unfold sRow at hb12
              simp only at hb12
              have a0 := hb12.cell 0
              have a1 := hb12.cell 1
              have a2 := hb12.cell 2
              have ho12 := r12.rs.ot
              have o0 := ho12.cell 0
              have c0 := n12.cell 0
              have c1 := n12.cell 1
              have c2 := n12.cell 2
              have zs := hb12.lt
              have zo := ho12.lt
              have zv := n12.lt
              have hq1 := fitV_in (checkFr_ok Hcur.out.ck).2
              have hq2 := fitV_in Hbv.out
              have R12 := Lib.hid r12; clear r12
              have N12 := Lib.hid n12; clear n12
              have Htk1 := Lib.hid htk1; clear htk1
              have Hb12 := Lib.hid hb12; clear hb12
              have Ho12 := Lib.hid ho12; clear ho12
              have Hq1 := Lib.hid hq1; clear hq1
              have Hq2 := Lib.hid hq2; clear hq2
              go_upto_region 23 with fail
              refine wp_region_floatT 11 [⟨⟨10, 125, 58, #[.int .i64 cur.1.2.1, .int .i64 cur.1.2.2.1, .int .i64 cur.1.2.2.2, .int .i64 Q.1, .int .i64 Q.2.1, .int .i64 Q.2.2, .int .i64 (stk.length : Int)]⟩, none, some (124, .agg #[.int .i64 cur.1.2.1, .int .i64 cur.1.2.2.1, .int .i64 cur.1.2.2.2, .int .i64 Q.1, .int .i64 Q.2.1, .int .i64 Q.2.2, .int .i64 (stk.length : Int)])⟩] (by kernel_rfl) (by kernel_rfl) rfl (by
                  intro x hx hn
                  rw [List.mem_singleton] at hx
                  subst hx
                  cases hn) (by
                  intro x hx v u h o ho ev hev w0
                  rw [List.mem_singleton] at hx
                  subst hx
                  simp at h
                  obtain ⟨rfl, rfl⟩ := h
                  injection ho with ho
                  subst ho
                  exact run_build1 (E := pLn) (z := .agg #[.int .i64 0, .int .i64 0, .int .i64 0, .int .i64 0, .int .i64 0, .int .i64 0, .int .i64 0]) (bytes := 56) rfl Try.underlying22 (by kernel_rfl) rfl (by decide) (by decide) hev rfl w0) (by
                  intro x hx j v row h
                  rw [List.mem_singleton] at hx
                  subst hx
                  cases h) ?_
              apply Exists.intro
              refine And.intro ?walk (And.intro ?vals ?tail)
              case walk =>
                intro W' hW'
                have e0 := cell_regrown ((cell_keep (hW'.block gs zs)).trans a0)
                have e1 := cell_regrown ((cell_keep (hW'.block gs zs)).trans a1)
                have e2 := cell_regrown ((cell_keep (hW'.block gs zs)).trans a2)
                have e3 := cell_regrown ((cell_keep (hW'.block go zo)).trans o0)
                have e4 := cell_regrown ((cell_keep (hW'.block g13 zv)).trans c0)
                have e5 := cell_regrown ((cell_keep (hW'.block g13 zv)).trans c1)
                have e6 := cell_regrown ((cell_keep (hW'.block g13 zv)).trans c2)
                simp only [virtQ, fltQ, nopT, List.take_succ_cons, List.take_zero, List.drop_succ_cons, List.drop_zero, List.map_cons, List.map_nil, List.cons_append, List.nil_append]
                iterate 14 (go_big_quiet_step (fail))
                exact wpQuiet_nil rfl
              case vals => exact ⟨trivial, rfl, by simp, trivial⟩
              case tail =>
                intro p w13 hbw2 hB2 hD2
                have hB8 := hB2 _ (List.mem_cons_self)
                simp only [Fb.fin] at hB8
                simp only [putsB, Fb.mk', List.drop_succ_cons, List.drop_zero]
                obtain ⟨gn, hgn⟩ : ∃ g, p 10 = g := ⟨_, rfl⟩
                rw [hgn] at hB8 ⊢
                clear hB2 hD2
                obtain ⟨nb, nz⟩ := hB8
                have np := R12.out.later hbw2
                simp only [Act.put]
                have hox := np.rs.ol
                have hba : gs + 1 ≤ w13.heap.size := np.rs.st.lt
                have hbo := np.rs.ot
                have hne : some go ≠ (Value.slice Ll lns.length cl).ownBlock := fun he => by have := (hox.lt _ he.symm).1; omega
                have hgn' : some gn ≠ (Value.slice Ll lns.length cl).ownBlock := fun he => by have := (R12.out.rs.ol.lt _ he.symm).2; omega
                have hR : pLn.R (fun _ => False) w13 (Value.agg #[.int .i64 cur.1.2.1, .int .i64 cur.1.2.2.1, .int .i64 cur.1.2.2.2, .int .i64 Q.1, .int .i64 Q.2.1, .int .i64 Q.2.2, .int .i64 (stk.length : Int)]).cells.toList ⟨cur.1.2, Q, (stk.length : Int)⟩ := ⟨rfl, Hq1.out, Hq2.out, fits_i64 (by simp only; omega)⟩
                refine wpList_app1G (E := pLn) (xs := lns) (v := .slice Ll lns.length cl) (base := gs + 1) (G := fun _ => False) 22 58 (.agg #[.int .i64 0, .int .i64 0, .int .i64 0, .int .i64 0, .int .i64 0, .int .i64 0, .int .i64 0]) 56 (.tmp 116) (.tmp 125) gn rfl rfl Try.underlying22 (by kernel_rfl) rfl (by decide) rfl rfl hox (.agg #[.int .i64 cur.1.2.1, .int .i64 cur.1.2.2.1, .int .i64 cur.1.2.2.2, .int .i64 Q.1, .int .i64 Q.2.1, .int .i64 Q.2.2, .int .i64 (stk.length : Int)]) nb hgn' ⟨cur.1.2, Q, (stk.length : Int)⟩ (fun _ => False) hR (fun _ h => h.elim) (lns.length + 1) rfl (room_of (by omega)) (by decide) hba ?_
                intro A10 c10 w14 hown7 hg7
                have hbm7 := hbo.same (hg7.out.oth _ hbo.lt hne)
                have x7 := hbm7.cell 0
                have f7 := hbm7.free 0
                have r15 := np.pushL hown7.out hg7.out
                obtain ⟨w15, hw15⟩ : ∃ W, W = w14.setCell ⟨go, 0, none⟩ (.slice A10 (lns.length + 1) c10) := ⟨_, rfl⟩
                rw [← hw15] at r15
                have hb15 := r15.rs.st
                have u16 := ((Upd.refl hb15).set 12 (.int .i64 (cur.2 + 1))).as (row' := sRow ((cur.1.1, Q), cur.2 + 1)) (sRow_set12 ((cur.1.1, Q), cur.2) (cur.2 + 1))
                have r16 := r15.upd u16
                obtain ⟨w16, hw16⟩ : ∃ W, W = w15.setCell ⟨gs, 12, none⟩ (.int .i64 (cur.2 + 1)) := ⟨_, rfl⟩
                rw [← hw16] at r16
                unfold sRow at hb15
                simp only at hb15
                have a12 := hb15.cell 12
                have f12 := hb15.free 12
                have hb16 := r16.rs.st
                unfold sRow at hb16
                simp only at hb16
                have g12 := hb16.cell 12
                have htr := r16.tr
                have q0 := htr.cell 0
                have q1 := htr.cell 1
                have hbm := r16.bel.size
                clear nb hgn' hR hbw2 hbm7 u16 hown7 hg7 a0 a1 a2 o0 c0 c1 c2 x0 hox
                have Np := Lib.hid np; clear np
                have R15 := Lib.hid r15; clear r15
                have R16 := Lib.hid r16; clear r16
                have Hb15 := Lib.hid hb15; clear hb15
                have Hb16 := Lib.hid hb16; clear hb16
                have Htr := Lib.hid htr; clear htr
                have Hbo := Lib.hid hbo; clear hbo
                have Hne := Lib.hid hne; clear hne
                go_upto_region 24 with fail
                rw [← hw15]
                clear x7 f7 hw15
                go_upto_region 25 with fail
                rw [← hw16]
                clear a12 f12 hw16
                by_cases hd : cur.2 + 1 ≤ 1000000
                case neg =>
                  have hno := Htk1.out.trans (if_pos (by omega))
                  have hr1 := E5.out (Hfail.out hno)
                  have hd' : 1000000 < cur.2 + 1 := by omega
                  clear hno
                  have k2z := R16.out.rz
                  have ztz := R16.out.bel.size
                  have k2y := blk_row (cs := #[.slice none 0 0, .slice none 0 0, .int .u8 0, .int .i64 0, .int .i64 0, .int .i64 0, .int .i64 0]) k2z
                  have t2y := row_below (g := (w.heap.size + 1 + 1)) R16.out.bel (by omega) #[.slice none 0 0, .slice none 0 0, .int .u8 0, .int .i64 0, .int .i64 0, .int .i64 0, .int .i64 0]
                  have Hr1 := Lib.hid hr1; clear hr1
                  have K2y := Lib.hid k2y; clear k2y
                  have T2y := Lib.hid t2y; clear t2y
                  go_wp2_with ((with_reducible show wpList _ _ _ (Oper.mk none _ _ _ _ _ :: _) _ _); refine wpList_storeG 31 (.tmp 6) (.tmp 140) _ #[.slice none 0 0, .slice none 0 0, .int .u8 0, .int .i64 0, .int .i64 0, .int .i64 0, .int .i64 0] rfl rfl rfl rfl k2z (by kernel_rfl) rfl (by simp [Value.oneCell']) rfl ?_)
                  subst hBP
                  refine bodyPost_ret (results_vec_tmp rfl _ _ _ (w.heap.size + 1 + 1) 31 _ rfl K2y.out Try.underlying31 (by kernel_rfl)) rfl ?_
                  exact placePost_zero Hr1.out T2y.out
                case pos =>
                  have htk := Htk1.out.trans (if_neg (by omega))
                  have hd' : ¬ 1000000 < cur.2 + 1 := by omega
                  have hok3 : TurOk ((cur.1.1, Q), cur.2 + 1) := ⟨Hcur.out.lo, checkFr_of (checkFr_ok Hcur.out.ck).1 Hbv.out, by show 0 ≤ cur.2 + 1; omega, hd⟩
                  have cbe := rBend_calls gs ((cur.1.1, Q), cur.2 + 1) b w16 hok3 ⟨hb0, j1⟩ ⟨j2, j3⟩ R16.out.rs.st
                  have Htk := Lib.hid htk; clear htk
                  have Cbe := Lib.hid cbe; clear cbe
                  go_wp2_with fail
                  refine Cbe.out.mono ?_
                  rintro e w17 ⟨rfl, u17⟩
                  have r17 := R16.out.upd u17
                  clear u17 q0 q1 g12
                  have R17 := Lib.hid r17; clear r17
                  go_wp2
                  go_roundw
                  case rel => exact ⟨k + 1, _, _, _, hlt, by go_num, rfl, Hnext.out _ Htk.out, _, _, R17.out⟩
                  case measure => simp [intOf]; omega
        · skip
          subst h102
          have htk0 : takeF b ⟨cur, stk, lns, mks⟩ ⟨102, args⟩ = (if inV (-1000000) Q = true then some ⟨((cur.1.1, Q), cur.2), stk, lns, mks⟩ else none) := by unfold takeF; rw [if_neg (show ¬ (102 : Int) = 70 by decide), if_pos rfl, Hnm.out, Hah.out]
          have Htk0 := Lib.hid htk0; clear htk0
          go_upto_region 19 with ((with_reducible show wpList _ _ _ (Oper.mk none _ _ _ _ _ :: _) _ _); refine wpList_storeG 25 (.tmp 13) (.tmp 86) _ #[.int .i64 cur.1.2.1, .int .i64 cur.1.2.2.1, .int .i64 cur.1.2.2.2] rfl rfl rfl rfl nb0 (by kernel_rfl) rfl (by simp [Value.oneCell']) rfl ?_)
          rw [← hw6, ← hg13]
          have hgn13 : gs < g13 := by omega
          clear v0 v1 v2 v3 v4 v5 hw6 nb0 hg13
          refine wp_region_floatT 13 [] (by kernel_rfl) (by kernel_rfl) rfl (fun x hx => absurd hx List.not_mem_nil) (fun x hx => absurd hx List.not_mem_nil) (fun x hx => absurd hx List.not_mem_nil) ?_
          apply Exists.intro
          refine And.intro ?walk (And.intro ?vals ?tail)
          case walk =>
            intro W' hW'
            have e0 := cell_regrown ((cell_keep (hW'.block gs hz6)).trans n0)
            have e1 := cell_regrown ((cell_keep (hW'.block gs hz6)).trans n1)
            have e2 := cell_regrown ((cell_keep (hW'.block gs hz6)).trans n2)
            have e3 := cell_regrown ((cell_keep (hW'.block gs hz6)).trans n3)
            have e4 := cell_regrown ((cell_keep (hW'.block gs hz6)).trans n4)
            have e5 := cell_regrown ((cell_keep (hW'.block gs hz6)).trans n5)
            have si : ∀ q os, Calls Try.prog 35 #[.int .i64 n, .agg #[.int .i64 (axT cur.1.1.toNat).1.1, .int .i64 (axT cur.1.1.toNat).1.2.1, .int .i64 (axT cur.1.1.toNat).1.2.2]] (grow (redrawn W' q) os) fun e w'' => e = .returned (.agg #[.int .i64 V.1, .int .i64 V.2.1, .int .i64 V.2.2]) ∧ ∃ p : Regrown, w'' = grow (redrawn W' p.d) p.os := fun q os => Calls.regrown_of (Cti.out _)
            have sj : ∀ q os, Calls Try.prog 34 #[.agg #[.int .i64 cur.1.2.1, .int .i64 cur.1.2.2.1, .int .i64 cur.1.2.2.2], .agg #[.int .i64 V.1, .int .i64 V.2.1, .int .i64 V.2.2]] (grow (redrawn W' q) os) fun e w'' => e = .returned (.agg #[.int .i64 Q.1, .int .i64 Q.2.1, .int .i64 Q.2.2]) ∧ ∃ p : Regrown, w'' = grow (redrawn W' p.d) p.os := fun q os => Calls.regrown_of (Cpl.out _)
            have Si := Lib.hid si; clear si
            have Sj := Lib.hid sj; clear sj
            simp only [virtQ, fltQ, nopT, List.take_succ_cons, List.take_zero, List.drop_succ_cons, List.drop_zero, List.map_cons, List.map_nil, List.cons_append, List.nil_append]
            iterate 12 (go_big_quiet_step (exact (Si.out _ _).mono fun e w'' h => h))
            iterate 1 (go_big_quiet_step (exact (Sj.out _ _).mono fun e w'' h => h))
            iterate 3 (go_big_quiet_step (fail))
            exact wpQuiet_nil rfl
          case vals => trivial
          case tail =>
            intro pf w10 hbw2 _ _
            simp only [putsB, List.drop_succ_cons, List.drop_zero]
            have r10 := R6.out.later hbw2
            have n10 := N13.out.same (hbw2.block _ N13.out.lt)
            have hb10 := r10.rs.st
            have u11 := (Upd.refl hb10).setRow (sRow ((cur.1.1, Q), cur.2))
            have r11 := r10.upd u11
            have n11 := n10.same (u11.oth _ n10.lt (by omega))
            obtain ⟨w11, hw11⟩ : ∃ W, W = w10.setRow gs (sRow ((cur.1.1, Q), cur.2)) := ⟨_, rfl⟩
            rw [← hw11] at r11 n11
            have hb11 := r11.rs.st
            unfold sRow at hb11
            simp only at hb11
            have a0 := hb11.cell 0
            have a1 := hb11.cell 1
            have a2 := hb11.cell 2
            have cin := rIn_calls Q w11
            obtain ⟨bv, hbv⟩ : ∃ v, inV (-1000000) Q = v := ⟨_, rfl⟩
            rw [hbv] at cin
            clear n0 n1 n2 n3 n4 n5 hbw2 u11 x0
            have R10 := Lib.hid r10; clear r10
            have N10 := Lib.hid n10; clear n10
            have R11 := Lib.hid r11; clear r11
            have N11 := Lib.hid n11; clear n11
            have Hb11 := Lib.hid hb11; clear hb11
            have Cin := Lib.hid cin; clear cin
            have Hbv := Lib.hid hbv; clear hbv
            go_upto_region 20 with ((with_reducible show wpList _ _ _ (Oper.mk none _ _ _ _ _ :: _) _ _); refine wpList_storeAtG 25 (.tmp 101) (.tmp 99) 0 _ #[.int .i64 Q.1, .int .i64 Q.2.1, .int .i64 Q.2.2] (sRow ((cur.1.1, Q), cur.2)) rfl rfl rfl rfl hb10 (by kernel_rfl) (by rw [sRow_size]; simp) (by simp [Value.oneCell']) (sRow_move cur Q) rfl ?_)
            rw [← hw11]
            clear hw11 hb10
            go_wp2_with fail
            refine Cin.out.mono ?_
            rintro e w12 ⟨rfl, d12⟩
            have r12 := R11.out.later d12
            have n12 := N11.out.same (d12.block _ N11.out.lt)
            have hbm := r12.bel.size
            clear a0 a1 a2 d12
            cases bv
            case false =>
              have hno : takeF b ⟨cur, stk, lns, mks⟩ ⟨102, args⟩ = none := Htk0.out.trans (if_neg (by rw [Hbv.out]; decide))
              have hr1 := E5.out (Hfail.out hno)
              have R12 := Lib.hid r12; clear r12
              have N12 := Lib.hid n12; clear n12
              have k2z := R12.out.rz
              have ztz := R12.out.bel.size
              have k2y := blk_row (cs := #[.slice none 0 0, .slice none 0 0, .int .u8 0, .int .i64 0, .int .i64 0, .int .i64 0, .int .i64 0]) k2z
              have t2y := row_below (g := (w.heap.size + 1 + 1)) R12.out.bel (by omega) #[.slice none 0 0, .slice none 0 0, .int .u8 0, .int .i64 0, .int .i64 0, .int .i64 0, .int .i64 0]
              have Hr1 := Lib.hid hr1; clear hr1
              have K2y := Lib.hid k2y; clear k2y
              have T2y := Lib.hid t2y; clear t2y
              go_wp2_with ((with_reducible show wpList _ _ _ (Oper.mk none _ _ _ _ _ :: _) _ _); refine wpList_storeG 31 (.tmp 6) (.tmp 108) _ #[.slice none 0 0, .slice none 0 0, .int .u8 0, .int .i64 0, .int .i64 0, .int .i64 0, .int .i64 0] rfl rfl rfl rfl k2z (by kernel_rfl) rfl (by simp [Value.oneCell']) rfl ?_)
              subst hBP
              refine bodyPost_ret (results_vec_tmp rfl _ _ _ (w.heap.size + 1 + 1) 31 _ rfl K2y.out Try.underlying31 (by kernel_rfl)) rfl ?_
              exact placePost_zero Hr1.out T2y.out
            case true =>
              have x0 := r12.at hob' m0
              have htk : takeF b ⟨cur, stk, lns, mks⟩ ⟨102, args⟩ = some ⟨((cur.1.1, Q), cur.2), stk, lns, mks⟩ := Htk0.out.trans (if_pos Hbv.out)
              have R12 := Lib.hid r12; clear r12
              have N12 := Lib.hid n12; clear n12
              have Htk := Lib.hid htk; clear htk
              go_wp2
              go_roundw
              case rel => exact ⟨k + 1, _, _, _, hlt, by go_num, rfl, Hnext.out _ Htk.out, _, _, R12.out⟩
              case measure => simp [intOf]; omega
      case neg =>
      have h70 : ¬ nm = 70 := fun e => hmv (.inl e)
      have h102 : ¬ nm = 102 := fun e => hmv (.inr e)
      have e70 : (nm == 70) = false := by simpa using h70
      have e102 : (nm == 102) = false := by simpa using h102
      clear hmv
      by_cases h43 : nm = 43
      case pos =>
        subst h43
        have htk : takeF b ⟨cur, stk, lns, mks⟩ ⟨43, args⟩ = some ⟨turnF 0 1 n cur, stk, lns, mks⟩ := by
          unfold takeF
          rw [if_neg (show ¬ (43 : Int) = 70 by decide), if_neg (show ¬ (43 : Int) = 102 by decide), if_pos rfl, Hnm.out]
        have ct := rTurn_calls (a := 0) (b := 1) (.inl ⟨rfl, rfl⟩) gs cur n w5 Hcur.out hbs
        have Htk := Lib.hid htk; clear htk
        have Ct := Lib.hid ct; clear ct
        go_wp2_with fail
        refine Ct.out.mono ?_
        rintro e w6 ⟨rfl, u6⟩
        have r6 := R5.out.upd u6
        clear u6 x0
        have R6 := Lib.hid r6; clear r6
        go_wp2
        go_roundw
        case rel => exact ⟨k + 1, _, _, _, hlt, by go_num, rfl, Hnext.out _ Htk.out, _, _, R6.out⟩
        case measure => simp [intOf]; omega
      case neg =>
      have e43 : (nm == 43) = false := by simpa using h43
      by_cases h45 : nm = 45
      case pos =>
        subst h45
        have htk : takeF b ⟨cur, stk, lns, mks⟩ ⟨45, args⟩ = some ⟨turnF 1 0 n cur, stk, lns, mks⟩ := by
          unfold takeF
          rw [if_neg (show ¬ (45 : Int) = 70 by decide), if_neg (show ¬ (45 : Int) = 102 by decide), if_neg (show ¬ (45 : Int) = 43 by decide), if_pos rfl, Hnm.out]
        have ct := rTurn_calls (a := 1) (b := 0) (.inr (.inl ⟨rfl, rfl⟩)) gs cur n w5 Hcur.out hbs
        have Htk := Lib.hid htk; clear htk
        have Ct := Lib.hid ct; clear ct
        go_wp2_with fail
        refine Ct.out.mono ?_
        rintro e w6 ⟨rfl, u6⟩
        have r6 := R5.out.upd u6
        clear u6 x0
        have R6 := Lib.hid r6; clear r6
        go_wp2
        go_roundw
        case rel => exact ⟨k + 1, _, _, _, hlt, by go_num, rfl, Hnext.out _ Htk.out, _, _, R6.out⟩
        case measure => simp [intOf]; omega
      case neg =>
      have e45 : (nm == 45) = false := by simpa using h45
      by_cases h94 : nm = 94
      case pos =>
        subst h94
        have htk : takeF b ⟨cur, stk, lns, mks⟩ ⟨94, args⟩ = some ⟨turnF 0 2 n cur, stk, lns, mks⟩ := by
          unfold takeF
          rw [if_neg (show ¬ (94 : Int) = 70 by decide), if_neg (show ¬ (94 : Int) = 102 by decide), if_neg (show ¬ (94 : Int) = 43 by decide), if_neg (show ¬ (94 : Int) = 45 by decide), if_pos rfl, Hnm.out]
        have ct := rTurn_calls (a := 0) (b := 2) (.inr (.inr (.inl ⟨rfl, rfl⟩))) gs cur n w5 Hcur.out hbs
        have Htk := Lib.hid htk; clear htk
        have Ct := Lib.hid ct; clear ct
        go_wp2_with fail
        refine Ct.out.mono ?_
        rintro e w6 ⟨rfl, u6⟩
        have r6 := R5.out.upd u6
        clear u6 x0
        have R6 := Lib.hid r6; clear r6
        go_wp2
        go_roundw
        case rel => exact ⟨k + 1, _, _, _, hlt, by go_num, rfl, Hnext.out _ Htk.out, _, _, R6.out⟩
        case measure => simp [intOf]; omega
      case neg =>
      have e94 : (nm == 94) = false := by simpa using h94
      by_cases h38 : nm = 38
      case pos =>
        subst h38
        have htk : takeF b ⟨cur, stk, lns, mks⟩ ⟨38, args⟩ = some ⟨turnF 2 0 n cur, stk, lns, mks⟩ := by
          unfold takeF
          rw [if_neg (show ¬ (38 : Int) = 70 by decide), if_neg (show ¬ (38 : Int) = 102 by decide), if_neg (show ¬ (38 : Int) = 43 by decide), if_neg (show ¬ (38 : Int) = 45 by decide), if_neg (show ¬ (38 : Int) = 94 by decide), if_pos rfl, Hnm.out]
        have ct := rTurn_calls (a := 2) (b := 0) (.inr (.inr (.inr (.inl ⟨rfl, rfl⟩)))) gs cur n w5 Hcur.out hbs
        have Htk := Lib.hid htk; clear htk
        have Ct := Lib.hid ct; clear ct
        go_wp2_with fail
        refine Ct.out.mono ?_
        rintro e w6 ⟨rfl, u6⟩
        have r6 := R5.out.upd u6
        clear u6 x0
        have R6 := Lib.hid r6; clear r6
        go_wp2
        go_roundw
        case rel => exact ⟨k + 1, _, _, _, hlt, by go_num, rfl, Hnext.out _ Htk.out, _, _, R6.out⟩
        case measure => simp [intOf]; omega
      case neg =>
      have e38 : (nm == 38) = false := by simpa using h38
      by_cases h33 : nm = 33
      case pos =>
        subst h33
        have htk : takeF b ⟨cur, stk, lns, mks⟩ ⟨33, args⟩ = some ⟨turnF 1 2 n cur, stk, lns, mks⟩ := by
          unfold takeF
          rw [if_neg (show ¬ (33 : Int) = 70 by decide), if_neg (show ¬ (33 : Int) = 102 by decide), if_neg (show ¬ (33 : Int) = 43 by decide), if_neg (show ¬ (33 : Int) = 45 by decide), if_neg (show ¬ (33 : Int) = 94 by decide), if_neg (show ¬ (33 : Int) = 38 by decide), if_pos rfl, Hnm.out]
        have ct := rTurn_calls (a := 1) (b := 2) (.inr (.inr (.inr (.inr ⟨rfl, rfl⟩)))) gs cur n w5 Hcur.out hbs
        have Htk := Lib.hid htk; clear htk
        have Ct := Lib.hid ct; clear ct
        go_wp2_with fail
        refine Ct.out.mono ?_
        rintro e w6 ⟨rfl, u6⟩
        have r6 := R5.out.upd u6
        clear u6 x0
        have R6 := Lib.hid r6; clear r6
        go_wp2
        go_roundw
        case rel => exact ⟨k + 1, _, _, _, hlt, by go_num, rfl, Hnext.out _ Htk.out, _, _, R6.out⟩
        case measure => simp [intOf]; omega
      case neg =>
      have e33 : (nm == 33) = false := by simpa using h33
      by_cases h124 : nm = 124
      case pos =>
        subst h124
        have htk : takeF b ⟨cur, stk, lns, mks⟩ ⟨124, args⟩ = some ⟨turnF 0 1 2 cur, stk, lns, mks⟩ := by
          unfold takeF
          rw [if_neg (show ¬ (124 : Int) = 70 by decide), if_neg (show ¬ (124 : Int) = 102 by decide), if_neg (show ¬ (124 : Int) = 43 by decide), if_neg (show ¬ (124 : Int) = 45 by decide), if_neg (show ¬ (124 : Int) = 94 by decide), if_neg (show ¬ (124 : Int) = 38 by decide), if_neg (show ¬ (124 : Int) = 33 by decide), if_pos rfl]
        have ct := rTurn_calls (a := 0) (b := 1) (.inl ⟨rfl, rfl⟩) gs cur 2 w5 Hcur.out hbs
        have Htk := Lib.hid htk; clear htk
        have Ct := Lib.hid ct; clear ct
        go_wp2_with fail
        refine Ct.out.mono ?_
        rintro e w6 ⟨rfl, u6⟩
        have r6 := R5.out.upd u6
        clear u6 x0
        have R6 := Lib.hid r6; clear r6
        go_wp2
        go_roundw
        case rel => exact ⟨k + 1, _, _, _, hlt, by go_num, rfl, Hnext.out _ Htk.out, _, _, R6.out⟩
        case measure => simp [intOf]; omega
      case neg =>
      have e124 : (nm == 124) = false := by simpa using h124
      by_cases h91 : nm = 91
      case pos =>
        subst h91
        have htk : takeF b ⟨cur, stk, lns, mks⟩ ⟨91, args⟩ = some ⟨cur, stk ++ [cur], lns, mks⟩ := by
          unfold takeF
          rw [if_neg (show ¬ (91 : Int) = 70 by decide), if_neg (show ¬ (91 : Int) = 102 by decide), if_neg (show ¬ (91 : Int) = 43 by decide), if_neg (show ¬ (91 : Int) = 45 by decide), if_neg (show ¬ (91 : Int) = 94 by decide), if_neg (show ¬ (91 : Int) = 38 by decide), if_neg (show ¬ (91 : Int) = 33 by decide), if_neg (show ¬ (91 : Int) = 124 by decide), if_pos rfl]
        have hbs' := hbs
        unfold sRow at hbs'
        have v0 := hbs'.cell 0
        have v1 := hbs'.cell 1
        have v2 := hbs'.cell 2
        have v3 := hbs'.cell 3
        have v4 := hbs'.cell 4
        have v5 := hbs'.cell 5
        have v6 := hbs'.cell 6
        have v7 := hbs'.cell 7
        have v8 := hbs'.cell 8
        have v9 := hbs'.cell 9
        have v10 := hbs'.cell 10
        have v11 := hbs'.cell 11
        have v12 := hbs'.cell 12
        have hba : gs + 1 ≤ w5.heap.size := hzg
        have hok5 := R5.out.rs.ok
        have hR : pS.R (fun _ => False) w5 (Value.agg #[.int .i64 cur.1.2.1, .int .i64 cur.1.2.2.1, .int .i64 cur.1.2.2.2, .int .i64 (axT cur.1.1.toNat).1.1, .int .i64 (axT cur.1.1.toNat).1.2.1, .int .i64 (axT cur.1.1.toNat).1.2.2, .int .i64 (axT cur.1.1.toNat).2.1.1, .int .i64 (axT cur.1.1.toNat).2.1.2.1, .int .i64 (axT cur.1.1.toNat).2.1.2.2, .int .i64 (axT cur.1.1.toNat).2.2.1, .int .i64 (axT cur.1.1.toNat).2.2.2.1, .int .i64 (axT cur.1.1.toNat).2.2.2.2, .int .i64 cur.2]).cells.toList cur := ⟨rfl, Hcur.out⟩
        have hrm : Room stk.length := room_of (by omega)
        have Htk := Lib.hid htk; clear htk
        have Hbs' := Lib.hid hbs'; clear hbs'
        have HR := Lib.hid hR; clear hR
        go_upto_region 41 with fail
        go_wp2_with ((with_reducible show wpList _ _ _ (Oper.mk (some 179) _ _ _ _ _ :: _) _ _); refine wpList_pushG (E := pS) (xs := stk) (v := .slice Ak stk.length ck) (base := gs + 1) (G := fun _ => False) 87 91 (.agg #[.int .i64 0, .int .i64 0, .int .i64 0, .int .i64 0, .int .i64 0, .int .i64 0, .int .i64 0, .int .i64 0, .int .i64 0, .int .i64 0, .int .i64 0, .int .i64 0, .int .i64 0]) 104 179 (.tmp 175) (.tmp 178) rfl rfl rfl rfl rfl Try.underlying87 (by kernel_rfl) rfl (by decide) (fun _ => rfl) (fun _ => rfl) hok5 (.agg #[.int .i64 cur.1.2.1, .int .i64 cur.1.2.2.1, .int .i64 cur.1.2.2.2, .int .i64 (axT cur.1.1.toNat).1.1, .int .i64 (axT cur.1.1.toNat).1.2.1, .int .i64 (axT cur.1.1.toNat).1.2.2, .int .i64 (axT cur.1.1.toNat).2.1.1, .int .i64 (axT cur.1.1.toNat).2.1.2.1, .int .i64 (axT cur.1.1.toNat).2.1.2.2, .int .i64 (axT cur.1.1.toNat).2.2.1, .int .i64 (axT cur.1.1.toNat).2.2.2.1, .int .i64 (axT cur.1.1.toNat).2.2.2.2, .int .i64 cur.2]) rfl cur (fun _ => False) HR.out (fun _ h => h.elim) (stk.length + 1) rfl hrm (by decide) hba ?_; intro A10 c10 w6 hown6 hg6)
        go_roundw
        case rel =>
          have r6 := R5.out.pushK hown6.out hg6.out
          exact ⟨k + 1, ⟨cur, stk ++ [cur], lns, mks⟩, A10, c10, hlt, by go_num, by simp, Hnext.out _ Htk.out, _, _, by simpa using r6⟩
        case measure => simp [intOf]; omega
      case neg =>
      have e91 : (nm == 91) = false := by simpa using h91
      by_cases h93 : nm = 93
      case pos =>
        subst h93
        have hne : stk ≠ [] := Hpop.out rfl
        have hk1 : 0 < stk.length := List.length_pos_iff.2 hne
        obtain ⟨kk, hkk⟩ : ∃ k, stk.length - 1 = k := ⟨_, rfl⟩
        have hkl : kk < stk.length := by omega
        obtain ⟨Az, cz, hz9, sk5⟩ := R5.out.rs.ok.sl
        injection hz9 with i1 i2 i3
        subst i1 i3
        clear i2
        obtain ⟨q, o9, x, hdx, rfl, hq, hce⟩ := sk5.getS hkl
        have hlast : stk.getLast? = some x := by
          rw [List.getLast?_eq_getElem?, hkk]
          exact get_of_drop hdx.out
        have htk : takeF b ⟨cur, stk, lns, mks⟩ ⟨93, args⟩ = some ⟨x, stk.dropLast, lns, mks⟩ := by
          unfold takeF
          rw [if_neg (show ¬ (93 : Int) = 70 by decide), if_neg (show ¬ (93 : Int) = 102 by decide), if_neg (show ¬ (93 : Int) = 43 by decide), if_neg (show ¬ (93 : Int) = 45 by decide), if_neg (show ¬ (93 : Int) = 94 by decide), if_neg (show ¬ (93 : Int) = 38 by decide), if_neg (show ¬ (93 : Int) = 33 by decide), if_neg (show ¬ (93 : Int) = 124 by decide), if_neg (show ¬ (93 : Int) = 91 by decide), if_pos rfl]
          simp only [hlast]
        have i0 := hce 0 _ rfl
        have i1 := hce 1 _ rfl
        have i2 := hce 2 _ rfl
        have i3 := hce 3 _ rfl
        have i4 := hce 4 _ rfl
        have i5 := hce 5 _ rfl
        have i6 := hce 6 _ rfl
        have i7 := hce 7 _ rfl
        have i8 := hce 8 _ rfl
        have i9 := hce 9 _ rfl
        have i10 := hce 10 _ rfl
        have i11 := hce 11 _ rfl
        have i12 := hce 12 _ rfl
        simp only [Nat.add_zero] at i0
        have hkc : (stk.length : Int) - 1 = (kk : Int) := by omega
        have hkc1 : (0 : Int) ≤ (kk : Int) := by omega
        have hkc2 : (kk : Int) < (stk.length : Int) := by omega
        have u6 := (Upd.refl hbs).setRow (sRow x)
        have r6 := R5.out.pop (s := ⟨cur, stk, lns, mks⟩) hne u6
        simp only at r6
        rw [hkk] at r6
        obtain ⟨w6, hw6⟩ : ∃ W, W = w5.setRow gs (sRow x) := ⟨_, rfl⟩
        rw [← hw6] at r6
        have hbs0 := hbs
        have hsl := fun W' : World => run_slice2 (P := Try.prog) Try.underlying87 (by kernel_rfl : (Try.prog.info? 91).map (·.size) = some 13) ⟨q, o9, none⟩ (n := stk.length) (c := ck) (k := kk) (Nat.le_trans (Nat.le_of_lt hkl) sk5.lenle.2) W'
        have Htk := Lib.hid htk; clear htk
        have Hdx := Lib.hid hdx; clear hdx
        have Sk5 := Lib.hid sk5; clear sk5
        have Hlast := Lib.hid hlast; clear hlast
        have Hne := Lib.hid hne; clear hne
        have Hkk := Lib.hid hkk; clear hkk
        have R6 := Lib.hid r6; clear r6
        clear hce u6
        go_upto_region 43 with fail
        go_upto_region 44 with ((with_reducible show wpList _ _ _ (Oper.mk none _ _ _ _ _ :: _) _ _); refine wpList_storeG 91 (.tmp 190) (.tmp 189) _ (sRow x) rfl rfl rfl rfl hbs0 (by kernel_rfl) rfl (sRow_one x) rfl ?_)
        rw [← hw6]
        clear hw6 i0 i1 i2 i3 i4 i5 i6 i7 i8 i9 i10 i11 i12
        go_wp2
        go_roundw
        case rel => exact ⟨k + 1, ⟨x, stk.dropLast, lns, mks⟩, _, _, hlt, by go_num, by rw [List.length_dropLast, Hkk.out], Hnext.out _ Htk.out, _, _, by rw [List.length_dropLast, Hkk.out]; exact R6.out⟩
        case measure => simp [intOf]; omega
      case neg =>
      have e93 : (nm == 93) = false := by simpa using h93
      have htk : takeF b ⟨cur, stk, lns, mks⟩ ⟨nm, args⟩ = some ⟨cur, stk, lns, mks ++ [⟨nm, cur.1.1, cur.1.2⟩]⟩ := by
        unfold takeF
        rw [if_neg h70, if_neg h102, if_neg h43, if_neg h45, if_neg h94, if_neg h38, if_neg h33, if_neg h124, if_neg h91, if_neg h93]
      have cfr := fun W' (hb : RowKit.Below w5.heap.size w5 W') => rFrame_calls gs cur W' Hcur.out (hbs.same (hb.block _ hzg))
      have o1 := hbo.cell 1
      have zo := hbo.lt
      have zbb : bb < w5.heap.size := by omega
      have Htk := Lib.hid htk; clear htk
      have Cfr := Lib.hid cfr; clear cfr
      go_upto_region 15 with fail
      refine wp_region_floatT 11 [⟨⟨10, 77, 67, #[.int .u8 nm, .int .u8 cur.1.1, .int .i64 cur.1.2.1, .int .i64 cur.1.2.2.1, .int .i64 cur.1.2.2.2]⟩, none, some (76, .agg #[.int .u8 nm, .int .u8 cur.1.1, .int .i64 cur.1.2.1, .int .i64 cur.1.2.2.1, .int .i64 cur.1.2.2.2])⟩] (by kernel_rfl) (by kernel_rfl) rfl (by
          intro x hx hn
          rw [List.mem_singleton] at hx
          subst hx
          cases hn) (by
          intro x hx v u h o ho ev hev w0
          rw [List.mem_singleton] at hx
          subst hx
          simp at h
          obtain ⟨rfl, rfl⟩ := h
          injection ho with ho
          subst ho
          exact run_build1 (E := pMk) (z := .agg #[.int .u8 0, .int .u8 0, .int .i64 0, .int .i64 0, .int .i64 0]) (bytes := 40) rfl Try.underlying23 (by kernel_rfl) rfl (by decide) (by decide) hev rfl w0) (by
          intro x hx j v row h
          rw [List.mem_singleton] at hx
          subst hx
          cases h) ?_
      apply Exists.intro
      refine And.intro ?walk (And.intro ?vals ?tail)
      case walk =>
        intro W' hW'
        have e0 := cell_regrown ((cell_keep (hW'.block go zo)).trans o1)
        have e1 := cell_regrown ((cell_keep (hW'.block bb zbb)).trans x0)
        have si : ∀ q os, Calls Try.prog 38 #[.pointer (some ⟨gs, 0, none⟩)] (grow (redrawn W' q) os) fun e w'' => e = .returned (.agg #[.int .u8 cur.1.1, .int .i64 cur.1.2.1, .int .i64 cur.1.2.2.1, .int .i64 cur.1.2.2.2]) ∧ ∃ p : Regrown, w'' = grow (redrawn W' p.d) p.os := fun q os => Calls.regrown_of (Cfr.out _ (hW'.trans ((below_regrown W' q os).mono hW'.size)))
        have Si := Lib.hid si; clear si
        simp only [virtQ, fltQ, nopT, List.take_succ_cons, List.take_zero, List.drop_succ_cons, List.drop_zero, List.map_cons, List.map_nil, List.cons_append, List.nil_append]
        iterate 9 (go_big_quiet_step (exact (Si.out _ _).mono fun e w'' h => h))
        iterate 5 (go_big_quiet_step (fail))
        exact wpQuiet_nil rfl
      case vals => exact ⟨trivial, rfl, by simp, trivial⟩
      case tail =>
        intro p w6 hbw2 hB2 hD2
        have hB8 := hB2 _ (List.mem_cons_self)
        simp only [Fb.fin] at hB8
        simp only [putsB, Fb.mk', List.drop_succ_cons, List.drop_zero]
        obtain ⟨gn, hgn⟩ : ∃ g, p 10 = g := ⟨_, rfl⟩
        rw [hgn] at hB8 ⊢
        clear hB2 hD2
        obtain ⟨nb, nz⟩ := hB8
        have np := R5.out.later hbw2
        simp only [Act.put]
        have hox := np.rs.om
        have hba : gs + 1 ≤ w6.heap.size := np.rs.st.lt
        have hbo6 := np.rs.ot
        have hne : some go ≠ (Value.slice Am mks.length cm).ownBlock := fun he => by have := (hox.lt _ he.symm).1; omega
        have hgn' : some gn ≠ (Value.slice Am mks.length cm).ownBlock := fun he => by have := (R5.out.rs.om.lt _ he.symm).2; omega
        have hR : pMk.R (fun _ => False) w6 (Value.agg #[.int .u8 nm, .int .u8 cur.1.1, .int .i64 cur.1.2.1, .int .i64 cur.1.2.2.1, .int .i64 cur.1.2.2.2]).cells.toList ⟨nm, cur.1.1, cur.1.2⟩ := ⟨rfl, hu8, (tur_R (F := fun _ => False) (w := w6) Hcur.out).2.1, (tur_R (F := fun _ => False) (w := w6) Hcur.out).2.2.1⟩
        refine wpList_app1G (E := pMk) (xs := mks) (v := .slice Am mks.length cm) (base := gs + 1) (G := fun _ => False) 23 67 (.agg #[.int .u8 0, .int .u8 0, .int .i64 0, .int .i64 0, .int .i64 0]) 40 (.tmp 68) (.tmp 77) gn rfl rfl Try.underlying23 (by kernel_rfl) rfl (by decide) rfl rfl hox (.agg #[.int .u8 nm, .int .u8 cur.1.1, .int .i64 cur.1.2.1, .int .i64 cur.1.2.2.1, .int .i64 cur.1.2.2.2]) nb hgn' ⟨nm, cur.1.1, cur.1.2⟩ (fun _ => False) hR (fun _ h => h.elim) (mks.length + 1) rfl (room_of (by omega)) (by decide) hba ?_
        intro A10 c10 w7 hown7 hg7
        have hbm7 := hbo6.same (hg7.out.oth _ hbo6.lt hne)
        have x7 := hbm7.cell 1
        have f7 := hbm7.free 1
        have r8 := np.pushM hown7.out hg7.out
        clear nb hgn' hR hbw2 hbm7 hown7 hg7 o1 x0 hox hbo6 hne hbo hbs
        have Np := Lib.hid np; clear np
        have R8 := Lib.hid r8; clear r8
        go_wp2
        go_roundw
        case rel => exact ⟨k + 1, _, _, _, hlt, by go_num, rfl, Hnext.out _ Htk.out, _, _, R8.out⟩
        case measure => simp [intOf]; omega
    case neg =>
      have hfin := hlq.out.fin hlt
      have hok := hlq.out.ok
      have hr1 := E6.out s hfin
      obtain ⟨Ll, cl, rfl, sl⟩ := rd.rs.ol.sl
      obtain ⟨Am, cm, rfl, sm⟩ := rd.rs.om.sl
      obtain ⟨cur, stk, lns, mks⟩ := s
      have hcur : TurOk cur := hok.cur
      have hbs := rd.rs.st
      have hzg := hbs.lt
      have hgg := rd.rs.lt
      have hbz := rd.bel.size
      have hgo2 := rd.hgo
      simp only at rd hbs sl sm hr1
      have cfr := fun W' (hb : RowKit.Below wo.heap.size wo W') => rFrame_calls gs cur W' hcur (hbs.same (hb.block _ hzg))
      have hbs' := hbs
      unfold sRow at hbs'
      have v12 := hbs'.cell 12
      have rr : trkOf ⟨cur, stk, lns, mks⟩ = ⟨lns, mks, cur.1, cur.2⟩ := rfl
      rw [rr] at hr1
      clear sl sm hlq
      have Rd := Lib.hid rd; clear rd
      have Hr1 := Lib.hid hr1; clear hr1
      have Hfin := Lib.hid hfin; clear hfin
      have Hok := Lib.hid hok; clear hok
      have Hcur := Lib.hid hcur; clear hcur
      have Rr := Lib.hid rr; clear rr
      have Cfr := Lib.hid cfr; clear cfr
      have Hbs' := Lib.hid hbs'; clear hbs'
      have Hbs := Lib.hid hbs; clear hbs
      go_upto_region 45 with fail
      refine wp_region_floatT 7 [] (by kernel_rfl) (by kernel_rfl) rfl (fun x hx => absurd hx List.not_mem_nil) (fun x hx => absurd hx List.not_mem_nil) (fun x hx => absurd hx List.not_mem_nil) ?_
      apply Exists.intro
      refine And.intro ?walk (And.intro ?vals ?tail)
      case walk =>
        intro W' hW'
        have e0 := cell_regrown ((cell_keep (hW'.block gs hzg)).trans v12)
        have si : ∀ q os, Calls Try.prog 38 #[.pointer (some ⟨gs, 0, none⟩)] (grow (redrawn W' q) os) fun e w'' => e = .returned (.agg #[.int .u8 cur.1.1, .int .i64 cur.1.2.1, .int .i64 cur.1.2.2.1, .int .i64 cur.1.2.2.2]) ∧ ∃ p : Regrown, w'' = grow (redrawn W' p.d) p.os := fun q os => Calls.regrown_of (Cfr.out _ (hW'.trans ((below_regrown W' q os).mono hW'.size)))
        have Si := Lib.hid si; clear si
        simp only [virtQ, fltQ, nopT, List.take_succ_cons, List.take_zero, List.drop_succ_cons, List.drop_zero, List.map_cons, List.map_nil, List.cons_append, List.nil_append]
        iterate 2 (go_big_quiet_step (exact (Si.out _ _).mono fun e w'' h => h))
        iterate 7 (go_big_quiet_step (fail))
        exact wpQuiet_nil rfl
      case vals => trivial
      case tail =>
        intro pf w7 hbw2 _ _
        simp only [putsB, List.drop_succ_cons, List.drop_zero]
        have r7 := Rd.out.later hbw2
        have hbo := r7.rs.ot
        have hzo := hbo.lt
        have uz := (Upd.refl hbo).setRow #[.slice Ll lns.length cl, .slice Am mks.length cm, .int .u8 cur.1.1, .int .i64 cur.1.2.1, .int .i64 cur.1.2.2.1, .int .i64 cur.1.2.2.2, .int .i64 cur.2]
        obtain ⟨wz, hwz⟩ : ∃ W, W = w7.setRow go #[.slice Ll lns.length cl, .slice Am mks.length cm, .int .u8 cur.1.1, .int .i64 cur.1.2.1, .int .i64 cur.1.2.2.1, .int .i64 cur.1.2.2.2, .int .i64 cur.2] := ⟨_, rfl⟩
        rw [← hwz] at uz
        have olz := r7.rs.ol.upd uz (by omega)
        have omz := r7.rs.om.upd uz (by omega)
        have k2 := r7.rz.same (uz.oth _ r7.rz.lt (by omega))
        have tz := r7.bel.trans (uz.bel w.heap.size (by omega) r7.bel.size)
        have nz := uz.blk
        have a0 := nz.cell 0
        have a1 := nz.cell 1
        have a2 := nz.cell 2
        have a3 := nz.cell 3
        have a4 := nz.cell 4
        have a5 := nz.cell 5
        have a6 := nz.cell 6
        obtain ⟨wy, hwy⟩ : ∃ W, W = wz.setRow (w.heap.size + 1 + 1) #[.slice Ll lns.length cl, .slice Am mks.length cm, .int .u8 cur.1.1, .int .i64 cur.1.2.1, .int .i64 cur.1.2.2.1, .int .i64 cur.1.2.2.2, .int .i64 cur.2] := ⟨_, rfl⟩
        have uy := (Upd.refl k2).setRow #[.slice Ll lns.length cl, .slice Am mks.length cm, .int .u8 cur.1.1, .int .i64 cur.1.2.1, .int .i64 cur.1.2.2.1, .int .i64 cur.1.2.2.2, .int .i64 cur.2]
        rw [← hwy] at uy
        have oly := olz.upd uy (by omega)
        have omy := omz.upd uy (by omega)
        have ty := tz.trans (uy.bel w.heap.size (by omega) tz.size)
        have ny := uy.blk
        clear hbw2 v12
        have R7 := Lib.hid r7; clear r7
        have Uz := Lib.hid uz; clear uz
        have Olz := Lib.hid olz; clear olz
        have Omz := Lib.hid omz; clear omz
        have Tz := Lib.hid tz; clear tz
        have Nz := Lib.hid nz; clear nz
        have Uy := Lib.hid uy; clear uy
        have Oly := Lib.hid oly; clear oly
        have Omy := Lib.hid omy; clear omy
        have Ty := Lib.hid ty; clear ty
        have Ny := Lib.hid ny; clear ny
        have Hwy := Lib.hid hwy; clear hwy
        go_upto_region 46 with ((with_reducible show wpList _ _ _ (Oper.mk none _ _ _ _ _ :: _) _ _); refine wpList_storeAtG 29 (.tmp 203) (.tmp 202) 2 _ #[.int .u8 cur.1.1, .int .i64 cur.1.2.1, .int .i64 cur.1.2.2.1, .int .i64 cur.1.2.2.2, .int .i64 cur.2] #[.slice Ll lns.length cl, .slice Am mks.length cm, .int .u8 cur.1.1, .int .i64 cur.1.2.1, .int .i64 cur.1.2.2.1, .int .i64 cur.1.2.2.2, .int .i64 cur.2] rfl rfl rfl rfl hbo (by kernel_rfl) (by simp) (by simp [Value.oneCell']) rfl rfl ?_)
        rw [← hwz]
        clear hwz hbo
        go_wp2_with ((with_reducible show wpList _ _ _ (Oper.mk none _ _ _ _ _ :: _) _ _); refine wpList_storeG 31 (.tmp 6) (.tmp 204) _ #[.slice Ll lns.length cl, .slice Am mks.length cm, .int .u8 cur.1.1, .int .i64 cur.1.2.1, .int .i64 cur.1.2.2.1, .int .i64 cur.1.2.2.2, .int .i64 cur.2] rfl rfl rfl rfl k2 (by kernel_rfl) rfl (by simp [Value.oneCell']) rfl ?_; rw [← Hwy.out])
        subst hBP
        refine bodyPost_ret (results_vec_tmp rfl _ _ _ (w.heap.size + 1 + 1) 31 _ rfl Ny.out Try.underlying31 (by kernel_rfl)) rfl ?_
        have sx := Oly.out.sl'
        have sy := Omy.out.sl'
        rw [Hr1.out]
        exact ⟨Ll, cl, Am, cm, rfl, sx.2.wide fun k hk => hk.2, sy.2.wide fun k hk => hk.2, Ty.out⟩
end Go.Proofs.Ytldccpmnboebmaa

/-! Ax -/
namespace Go.Proofs.Ytldccpmnboebmaa
open Go.RowKit Go.Sort
set_option linter.unusedVariables false

/-- the words that the law leaves out -/
def longG (ms : List Mod) : Bool := ms.any fun m => decide (20 < m.args.length)
def great17 (ms : List Mod) : Bool := longG (ms.take 2100) || ((decide (300 < ms.length) && decide (ms.length ≤ 2000)) || decide (2050 < ms.length))
theorem great_drop {ms : List Mod} {m : Mod} {k : Nat} (hk : k < 2100) (hd : ms.drop k = m :: ms.drop (k + 1)) : (ms.take 2100).drop k = m :: (ms.take 2100).drop (k + 1) := by
  rw [List.drop_take, List.drop_take, hd]
  obtain ⟨j, hj⟩ : ∃ j, 2100 - k = j + 1 := ⟨2099 - k, by omega⟩
  have hj2 : 2100 - (k + 1) = j := by omega
  rw [hj, hj2]
  rfl
set_option maxRecDepth 100000 in
set_option maxHeartbeats 4000000 in
theorem great_calls (A : Option Addr) (c : Nat) (ms : List Mod) (w : World) (h : SlAt pMod (Old w) w A c ms) : Calls Try.prog 12 #[.slice A ms.length c] w fun e w' => e = .returned (.bool (great17 ms)) ∧ w = w' := by
  have q1 := h.lenle.1
  have q2 := h.lenle.2
  have H := Lib.hid h; clear h
  go_enter Try.func12, Try.ntmps12
  go_wp2
  go_loopw [3] (fun i wr => ∃ k : Nat, k ≤ ms.length ∧ k ≤ 2100 ∧ i = .int .i64 k ∧ Hid (w = wr) ∧ Hid (longG (ms.take 2100) = longG ((ms.take 2100).drop k))) (fun i _ => ms.length - (intOf i).toNat)
  case atStart => exact ⟨0, Nat.zero_le _, Nat.zero_le _, rfl, rfl, rfl⟩
  case round =>
    obtain ⟨k, hk, hk2, rfl, hw, hg⟩ := hrel
    by_cases hlt : k < ms.length ∧ k < 2100
    case pos =>
      obtain ⟨hl1, hl2⟩ := hlt
      have hl2' : (k : Int) < 2100 := by omega
      obtain rfl := hw.out
      obtain ⟨bb, oo, A', c', m, hd, rfl, hob, m0, m1, hu8, hma, hml⟩ := H.out.getMod hl1
      have hg' := hg.out
      rw [great_drop hl2 hd.out] at hg'
      have hml2 := hma.out.lenle.1
      by_cases h20 : 20 < m.args.length
      case pos =>
        have hgr : great17 ms = true := by unfold great17; rw [hg']; unfold longG; simp [h20]
        have Hgr := Lib.hid hgr; clear hgr
        have Hg' := Lib.hid hg'; clear hg'
        clear hg hd hma
        go_wp2
        go_ret
        exact ⟨by rw [Hgr.out]; rfl, rfl⟩
      case neg =>
        have hg2 : longG (ms.take 2100) = longG ((ms.take 2100).drop (k + 1)) := by rw [hg']; unfold longG; simp [h20]
        have Hg2 := Lib.hid hg2; clear hg2
        have Hg' := Lib.hid hg'; clear hg'
        clear hg hd hma
        go_wp2
        go_roundw
        case rel => exact ⟨k + 1, hl1, hl2, by go_num, (by first | exact rfl | exact trivial), Hg2⟩
        case measure => simp [intOf]; omega
    case neg =>
      obtain rfl := hw.out
      have hnil : (ms.take 2100).drop k = [] := List.drop_eq_nil_of_le (by rw [List.length_take]; omega)
      have hg' := hg.out
      rw [hnil] at hg'
      have hgr : great17 ms = ((decide (300 < ms.length) && decide (ms.length ≤ 2000)) || decide (2050 < ms.length)) := by unfold great17; rw [hg']; rfl
      rcases (show (¬ k < ms.length) ∨ (k < ms.length ∧ ¬ (k : Int) < 2100) from by omega) with c1 | ⟨c1, c2⟩
      all_goals
        rcases (show ((300 < ms.length ∧ ms.length ≤ 2000)) ∨ (¬ 300 < ms.length ∧ ¬ 2050 < ms.length) ∨ (300 < ms.length ∧ ¬ ms.length ≤ 2000 ∧ ¬ 2050 < ms.length) ∨ (300 < ms.length ∧ ¬ ms.length ≤ 2000 ∧ 2050 < ms.length) from by omega) with ⟨d1, d2⟩ | ⟨d1, d2⟩ | ⟨d1, d2, d3⟩ | ⟨d1, d2, d3⟩
      all_goals
        have hv := hgr
        simp only [d1, decide_true, decide_false, Bool.true_and, Bool.false_and, Bool.false_or] at hv
        have Hgr := Lib.hid hgr; clear hgr
        have Hg' := Lib.hid hg'; clear hg'
        have Hv := Lib.hid hv; clear hv
        clear hg
        go_wp2
        all_goals (go_ret)
        all_goals
          refine ⟨?_, rfl⟩
          rw [Hgr.out]
          refine congrArg Ending.returned ?_
          show Value.bool _ = Value.bool _
          refine congrArg Value.bool ?_
          rw [Bool.eq_iff_iff]
          simp only [Bool.or_eq_true, Bool.and_eq_true, decide_eq_true_eq, eq_self, true_iff]
          omega
end Go.Proofs.Ytldccpmnboebmaa

/-! We -/
namespace Go.Proofs.Ytldccpmnboebmaa
open Go.RowKit

theorem info_mod : (Try.prog.info? 77).map (fun i => (i.zero, i.size, i.bytes)) = some (some (.agg #[.int .u8 0, .slice none 0 0]), 2, 32) := by kernel_rfl

/-- the cells of a block of modules, k of them twinned -/
def TwinAt (w0 : World) (g : Nat) (ms : List Mod) (k : Nat) (w : World) (C : Array Value) : Prop :=
  ∀ i m, ms[i]? = some m → ∃ A' c', C[i * 2]? = some (.int .u8 m.name) ∧ C[i * 2 + 1]? = some (.slice A' m.args.length c') ∧ Fits .u8 m.name ∧
    ((i < k ∧ SlAt (pI .i64) (fun q => g < q ∧ q < w.heap.size) w A' c' m.args ∧ (m.args ≠ [] → ∀ b o, A' = some ⟨b, o, none⟩ → Unf w b)) ∨ (k ≤ i ∧ SlAt (pI .i64) (Old w0) w A' c' m.args))

def TwinPost (ms : List Mod) (w : World) (e : Ending) (w' : World) : Prop :=
  ∃ A c, e = .returned (.slice A ms.length c) ∧ Own pModF 77 w.heap.size (w.heap.size ≤ ·) w' (.slice A ms.length c) ms ∧ Below w.heap.size w w'

theorem twinAt_own {w0 w : World} {g : Nat} {ms : List Mod} {C : Array Value} (hb : Blk w g 77 C) (hC : C.size = ms.length * 2) (hg : w0.heap.size ≤ g) (hm : ms.length ≤ maxLen) (h : TwinAt w0 g ms ms.length w C) :
    Own pModF 77 w0.heap.size (w0.heap.size ≤ ·) w (.slice (some ⟨g, 0, none⟩) ms.length ms.length) ms := by
  refine ⟨C.toList, ⟨by simpa [pModF] using hC, .inr ⟨g, ms.length, C, rfl, hg, hb, Nat.le_refl _, hm, by simpa [pModF] using hC, ?_⟩⟩, ?_⟩
  · exact List.take_of_length_le (by simp [pModF]; omega)
  · refine cellsAre_idx (by simpa [pModF] using hC) fun i m hi => ?_
    obtain ⟨A', c', h1, h2, h3, h4⟩ := h i m hi
    have hlt : i < ms.length := (List.getElem?_eq_some_iff.1 hi).1
    rcases h4 with ⟨_, h5, h6⟩ | ⟨h5, _⟩
    · refine ⟨[.int .u8 m.name, .slice A' m.args.length c'], ⟨A', c', rfl, h3, h5.wide fun q hq => ⟨by omega, hq.2, fun he => ?_⟩, h6⟩, fun j c hc => ?_⟩
      · simp [Value.ownBlock] at he; omega
      · match j, hc with
        | 0, hc => simp at hc; subst hc; simpa [pModF] using h1
        | 1, hc => simp at hc; subst hc; simpa [pModF] using h2
    · omega

theorem info_int2 : (Try.prog.info? 3).map (fun i => (i.zero, i.size, i.bytes)) = some (some (.int .i64 0), 1, 8) := by kernel_rfl

end Go.Proofs.Ytldccpmnboebmaa

/-! Wf -/
namespace Go.Proofs.Ytldccpmnboebmaa
open Go.RowKit

def RefTwinPost (ms : List Mod) (w : World) (e : Ending) (w' : World) : Prop :=
  ∃ A c, e = .returned (.slice A ms.length c) ∧ Own pMod 77 w.heap.size (w.heap.size ≤ ·) w' (.slice A ms.length c) ms ∧ Below w.heap.size w w'

set_option maxRecDepth 100000 in
set_option maxHeartbeats 2000000 in
theorem refTwin_calls (A : Option Addr) (c : Nat) (ms : List Mod) (w : World) (h : SlAt pMod (Old w) w A c ms) (hbd : ms.length ≤ 10000) (hbd2 : ∀ m ∈ ms, m.args.length ≤ 1000) :
    Calls Try.prog 13 #[.slice A ms.length c] w (RefTwinPost ms w) := by
  have hmx := h.lenle
  have H := Lib.hid h; clear h
  have Hbd2 := Lib.hid hbd2; clear hbd2
  go_enter Try.func13, Try.ntmps13
  go_wp2
  go_loopw [4, 3] (fun i out wr => ∃ k : Nat, k ≤ ms.length ∧ i = .int .i64 k ∧ Hid (Below w.heap.size w wr) ∧ w.heap.size ≤ wr.heap.size ∧ ∃ A' c', out = .slice A' k c' ∧
    Hid (Own pMod 77 w.heap.size (w.heap.size ≤ ·) wr out (ms.take k))) (fun i _ _ => ms.length - (intOf i).toNat)
  case atStart => exact ⟨0, Nat.zero_le _, rfl, Below.refl _ _, Nat.le_refl _, none, 0, rfl, Own.nil⟩
  case round =>
    obtain ⟨k, hk, rfl, hb, hsz, Ao, co, rfl, hown⟩ := hrel
    obtain ⟨wo, rfl⟩ : ∃ wo : World, wo = wr := ⟨_, rfl⟩
    by_cases hlt : k < ms.length
    · obtain ⟨b, o, A', c', m, hd, rfl, hob, hc0, hc1, hf8, hargs, hl⟩ := (H.out.below hb.out).getMod hlt
      have hob' : b < wo.heap.size := Nat.lt_of_lt_of_le hob hsz
      have hal : m.args.length ≤ 1000 := Hbd2.out _ (mem_of_drop hd.out)
      have hk0 : (0 : Int) ≤ (k : Int) := Int.natCast_nonneg _
      have hk1 : (k : Int) < (ms.length : Int) := by omega
      have H8 := Lib.hid hf8; clear hf8
      have hnil : Own (pI .i64) 3 wo.heap.size (fun _ => True) ((wo.alloc (.cells #[] 3)).drew) (.slice (some ⟨wo.heap.size, 0, none⟩) 0 0) [] := Own.drew (Own.empty (Nat.le_refl _))
      have hs1 : SlAt (pI .i64) (Old w) ((wo.alloc (.cells #[] 3)).drew) A' c' m.args := hargs.out.keep (fun q hq => Below.heap_alloc _ _ _ (Nat.lt_of_lt_of_le hq hsz))
      have hF1 : ∀ q, Old w q → True ∧ q < ((wo.alloc (.cells #[] 3)).drew).heap.size ∧ some q ≠ (Value.slice (some ⟨wo.heap.size, 0, none⟩) 0 0).ownBlock := fun q hq => by
        have : q < w.heap.size := hq
        refine ⟨trivial, by simp; omega, fun he => ?_⟩
        simp [Value.ownBlock] at he; omega
      have hr1 : Room m.args.length := room_of (by omega)
      have hB1 : wo.heap.size ≤ ((wo.alloc (.cells #[] 3)).drew).heap.size := by simp
      have hk3 : (ms.take k ++ [m]).length = k + 1 := by simp; omega
      have hr2 : Room (k + 1) := room_of (by omega)
      have step2 : ∀ (A1 : Option Addr) (c1 : Nat) (w1 : World), Hid (Own (pI .i64) 3 wo.heap.size (fun _ => True) w1 (.slice A1 m.args.length c1) ([] ++ m.args)) → Below wo.heap.size ((wo.alloc (.cells #[] 3)).drew) w1 →
          Own pMod 77 w.heap.size (w.heap.size ≤ ·) (w1.alloc (.cells #[.int .u8 m.name, .slice A1 m.args.length c1] 77)) (.slice Ao k co) (ms.take k) ∧
          SlAt pMod (fun q => (wo.heap.size ≤ q ∧ q < w1.heap.size) ∨ q = w1.heap.size) (w1.alloc (.cells #[.int .u8 m.name, .slice A1 m.args.length c1] 77)) (some ⟨w1.heap.size, 0, none⟩) 1 [m] ∧
          (∀ q, ((wo.heap.size ≤ q ∧ q < w1.heap.size) ∨ q = w1.heap.size) → w.heap.size ≤ q ∧ q < (w1.alloc (.cells #[.int .u8 m.name, .slice A1 m.args.length c1] 77)).heap.size ∧ some q ≠ (Value.slice Ao k co).ownBlock) ∧
          w.heap.size ≤ (w1.alloc (.cells #[.int .u8 m.name, .slice A1 m.args.length c1] 77)).heap.size ∧ Below w.heap.size w (w1.alloc (.cells #[.int .u8 m.name, .slice A1 m.args.length c1] 77)) := by
        intro A1 c1 w1 h1 h2
        have hs2 : wo.heap.size < w1.heap.size := by have := h2.size; simp at this; omega
        have hb3 : Below wo.heap.size wo w1 := ⟨h2.os, h2.tape, h2.output, Nat.le_of_lt hs2, fun q hq => (h2.block q hq).trans (Below.heap_alloc _ _ _ hq)⟩
        obtain ⟨A3, c3, e3, h3⟩ := (h1.out.flat (pI_flat _) (G' := (wo.heap.size ≤ ·))).fresh
        cases e3
        refine ⟨(hown.out.later hb3).alloc _, sl_boxed (u := .agg #[.int .u8 m.name, .slice A1 m.args.length c1]) (F := fun q => wo.heap.size ≤ q ∧ q < w1.heap.size) ⟨A1, c1, rfl, H8.out, h3⟩ (fun q hq => hq.2), fun q hq => ⟨by omega, by simp; omega, fun he => ?_⟩, by simp; omega, (hb.out.trans (hb3.mono hsz)).alloc (by omega) _⟩
        have := hown.out.lt q he.symm
        omega
      have kp1 : ∀ w1 : World, Below wo.heap.size ((wo.alloc (.cells #[] 3)).drew) w1 → w1.cell? ⟨b, o + k * 2, none⟩ = some (.int .u8 m.name) ∧ w1.cell? ⟨b, o + k * 2 + 1, none⟩ = some (.slice A' m.args.length c') := by
        intro w1 h1
        have e : w1.heap[b]? = wo.heap[b]? := (h1.block b hob').trans (Below.heap_alloc _ _ _ hob')
        exact ⟨(cell_keep e).trans hc0, (cell_keep e).trans hc1⟩
      have kp2 : ∀ (w1 w2 : World) (ob : Obj), Below wo.heap.size ((wo.alloc (.cells #[] 3)).drew) w1 → Below w.heap.size (w1.alloc ob) w2 → w2.cell? ⟨b, o + k * 2, none⟩ = some (.int .u8 m.name) ∧ w2.cell? ⟨b, o + k * 2 + 1, none⟩ = some (.slice A' m.args.length c') := by
        intro w1 w2 ob h1 h2
        have hs2 : b < w1.heap.size := by have := h1.size; simp at this; omega
        have e : w2.heap[b]? = wo.heap[b]? := ((h2.block b hob).trans (Below.heap_alloc _ _ _ hs2)).trans ((h1.block b hob').trans (Below.heap_alloc _ _ _ hob'))
        exact ⟨(cell_keep e).trans hc0, (cell_keep e).trans hc1⟩
      have Kp1 := Lib.hid kp1; have Kp2 := Lib.hid kp2
      clear kp1 kp2
      have Hnil := Lib.hid hnil; have Hs1 := Lib.hid hs1; have HF1 := Lib.hid hF1; have Hr1 := Lib.hid hr1; have HB1 := Lib.hid hB1; have Hk3 := Lib.hid hk3; have Hr2 := Lib.hid hr2; have Step2 := Lib.hid step2
      clear hnil hs1 hF1 hr1 hB1 hk3 hr2 step2
      go_wp2_with fail
      go_region_held3 (fun w' => w'.cell? ⟨b, o + k * 2, none⟩ = some (.int .u8 m.name) ∧ w'.cell? ⟨b, o + k * 2 + 1, none⟩ = some (.slice A' m.args.length c'))
        (first | go_keep | exact Kp1.out _ hb1 | exact Kp2.out _ _ _ hb1 hb2)
        (first
          | ((refine step_cat (E := pI .i64) (xs := []) 75 3 (.int .i64 0) 8 (.tmp 17) (.tmp 22) rfl rfl Try.underlying75 info_int2 rfl (by decide) rfl Hnil.out A' c' m.args rfl (Old w) Hs1.out HF1.out m.args.length rfl Hr1.out (by decide) HB1.out ?_; intro A1 c1 w1 hown1 hb1 hk1))
          | ((refine step_cat (E := pMod) (xs := ms.take k) 47 77 (.agg #[.int .u8 0, .slice none 0 0]) 32 (.tmp 11) (.tmp 25) rfl rfl Try.underlying47 info_mod rfl (by decide) rfl (Step2.out A1 c1 w1 hown1 hb1).1 _ 1 [m] rfl _ (Step2.out A1 c1 w1 hown1 hb1).2.1 (Step2.out A1 c1 w1 hown1 hb1).2.2.1 (k + 1) Hk3.out Hr2.out (by decide) (Step2.out A1 c1 w1 hown1 hb1).2.2.2.1 ?_; intro A2 c2 w2 hown2 hb2 hk2)))
      have hbw : Below w.heap.size w w2 := (Step2.out A1 c1 w1 hown1 hb1).2.2.2.2.trans hb2
      have Hbw := Lib.hid hbw; clear hbw
      clear Step2 Kp1 Kp2 hb1 hb2
      go_wp2
      go_roundw
      case rel =>
        refine ⟨k + 1, by omega, by go_num, Hbw, Hbw.out.size, A2, c2, rfl, ?_⟩
        unfold Hid; rw [take_of_drop hd.out]; exact hown2.out
      case measure => simp [intOf]; omega
    · obtain rfl : k = ms.length := by omega
      go_wp2
      go_ret
      have := hown.out
      rw [List.take_length] at this
      exact ⟨_, _, rfl, this, hb.out⟩
end Go.Proofs.Ytldccpmnboebmaa

/-! Wg -/
namespace Go.Proofs.Ytldccpmnboebmaa
open Go.RowKit Go.Sort

theorem beq_mod (m n : Mod) : (m == n) = (m.name == n.name && m.args == n.args) := by
  rw [Bool.eq_iff_iff, beq_iff_eq, Bool.and_eq_true, beq_iff_eq, beq_iff_eq]
  obtain ⟨a, b⟩ := m
  obtain ⟨c, d⟩ := n
  simp


set_option maxRecDepth 100000 in
set_option maxHeartbeats 1000000 in
theorem sameMods_calls {F : Nat → Prop} (A B : Option Addr) (c c' : Nat) (m n : Mod) (w : World) (h : SlAt (pI .i64) F w A c m.args) (h' : SlAt (pI .i64) F w B c' n.args) (hF : ∀ k, F k → k < w.heap.size) :
    Calls Try.prog 39 #[.agg #[.int .u8 m.name, .slice A m.args.length c], .agg #[.int .u8 n.name, .slice B n.args.length c']] w (BoolPost (m == n) w) := by
  rw [beq_mod]
  obtain ⟨nm, xs⟩ := m
  obtain ⟨nn, ys⟩ := n
  simp only at h h' ⊢
  have hmx := h.lenle
  have hmy := h'.lenle
  have H := Lib.hid h; clear h
  have H' := Lib.hid h'; clear h'
  have HF := Lib.hid hF; clear hF
  have hbW : Below w.heap.size w ((w.alloc (.cells #[.int .u8 nm, .slice A xs.length c] 77)).alloc (.cells #[.int .u8 nn, .slice B ys.length c'] 77)) := ((Below.refl _ _).alloc (Nat.le_refl _) _).alloc (by simp) _
  have HbW := Lib.hid hbW; clear hbW
  by_cases hn : nm = nn
  · have e0 : (nm != nn) = false := by simp [hn]
    have Hn := Lib.hid hn; clear hn
    by_cases hl : xs.length = ys.length
    · have e1 : ((xs.length : Int) != (ys.length : Int)) = false := by simp [hl]
      have Hl := Lib.hid hl; clear hl
      have hkp : ∀ (d : Nat) k, F k → ((((w.alloc (.cells #[.int .u8 nm, .slice A xs.length c] 77)).alloc (.cells #[.int .u8 nn, .slice B ys.length c'] 77))).drewN d).heap[k]? = w.heap[k]? := fun d k hk =>
        (Below.heap_alloc _ _ _ (by have := HF.out k hk; simp; omega)).trans (Below.heap_alloc _ _ _ (HF.out k hk))
      have Hx := Lib.hid (fun d => H.out.keep (hkp d))
      have Hy := Lib.hid (fun d => H'.out.keep (hkp d))
      clear hkp
      have hc1 : ∀ d : Nat, ((((w.alloc (.cells #[.int .u8 nm, .slice A xs.length c] 77)).alloc (.cells #[.int .u8 nn, .slice B ys.length c'] 77))).drewN d).cell? ⟨w.heap.size, 1, none⟩ = some (.slice A xs.length c) := fun d =>
        (cell_keep (w := w.alloc (.cells #[.int .u8 nm, .slice A xs.length c] 77)) (Below.heap_alloc _ _ _ (by simp))).trans ((Blk.new w _ _).cell 1)
      have hc2 : ∀ d : Nat, ((((w.alloc (.cells #[.int .u8 nm, .slice A xs.length c] 77)).alloc (.cells #[.int .u8 nn, .slice B ys.length c'] 77))).drewN d).cell? ⟨w.heap.size + 1, 1, none⟩ = some (.slice B ys.length c') := fun d => by
        simp
      have Hc1 := Lib.hid hc1; have Hc2 := Lib.hid hc2
      clear hc1 hc2
      go_enter Try.func39, Try.ntmps39
      go_wp2
      go_loopw [5] (fun i wr => ∃ k : Nat, k ≤ xs.length ∧ i = .int .i64 k ∧ Hid ((xs == ys) = (xs.drop k == ys.drop k)) ∧ ∃ d : Nat, wr = (((w.alloc (.cells #[.int .u8 nm, .slice A xs.length c] 77)).alloc (.cells #[.int .u8 nn, .slice B ys.length c'] 77))).drewN d) (fun i _ => xs.length - (intOf i).toNat)
      case atStart => exact ⟨0, Nat.zero_le _, rfl, rfl, 0, rfl⟩
      case round =>
        obtain ⟨k, hk, rfl, hin, d, hw⟩ := hrel
        have hbr : Below w.heap.size w wr := by rw [hw]; exact below_drewN HbW.out d
        have hc1 := Hc1.out d
        have hc2 := Hc2.out d
        have hx := Hx.out d
        have hy := Hy.out d
        rw [← hw] at hc1 hc2 hx hy
        have Hbr := Lib.hid hbr; clear hbr
        have Hw := Lib.hid hw; clear hw
        clear Hx Hy
        by_cases hlt : k < xs.length
        · have hlt' : k < ys.length := by rw [← Hl.out]; exact hlt
          obtain ⟨b, o, x, hdx, rfl, _, hc, _⟩ := hx.getI hlt
          obtain ⟨b', o', y, hdy, rfl, _, hc', _⟩ := hy.getI hlt'
          clear hx hy
          by_cases hxy : x = y
          · have e1 : (x != y) = false := by simp [hxy]
            have Hxy := Lib.hid hxy; clear hxy
            go_wp2
            go_quiet (fail)
            go_wp2
            go_roundw
            case rel =>
              refine ⟨k + 1, by omega, by go_num, ?_, ?_⟩
              · unfold Hid; rw [hin.out, hdx.out, hdy.out, Hxy.out]; simp
              · rw [Hw.out]; exact ⟨_, World.drewN_drewN _ _ _⟩
            case measure => simp [intOf]; omega
          · have e1 : (x != y) = true := by simp [hxy]
            have Hxy := Lib.hid hxy; clear hxy
            go_wp2
            go_quiet (fail)
            go_wp2
            go_ret
            refine ⟨ret_bool ?_, below_drewN Hbr.out _⟩
            rw [hin.out, hdx.out, hdy.out, List.cons_beq_cons, beq_false_of_ne Hxy.out]; simp
        · clear hx hy
          go_wp2
          go_ret
          refine ⟨ret_bool ?_, Hbr.out⟩
          rw [hin.out, drop_end hlt, drop_end (by rw [← Hl.out]; exact hlt), Hn.out]; simp
    · have e1 : ((xs.length : Int) != (ys.length : Int)) = true := by simp; omega
      have Hl := Lib.hid hl; clear hl
      go_enter Try.func39, Try.ntmps39
      go_wp2
      go_ret
      refine ⟨ret_bool ?_, HbW.out⟩
      cases hb : xs == ys
      · simp
      · exact absurd (congrArg List.length (eq_of_beq hb)) Hl.out
  · have e0 : (nm != nn) = true := by simp [hn]
    have Hn := Lib.hid hn; clear hn
    go_enter Try.func39, Try.ntmps39
    go_wp2
    go_ret
    refine ⟨ret_bool ?_, HbW.out⟩
    rw [beq_false_of_ne Hn.out]; rfl
set_option maxRecDepth 100000 in
set_option maxHeartbeats 1000000 in
theorem refSame_calls (A B : Option Addr) (c c' : Nat) (xs ys : List Mod) (w : World) (h : SlAt pMod (Old w) w A c xs) (h' : SlAt pMod (Old w) w B c' ys) :
    Calls Try.prog 16 #[.slice A xs.length c, .slice B ys.length c'] w (BoolPost (xs == ys) w) := by
  have hmx := h.lenle
  have hmy := h'.lenle
  have H := Lib.hid h; clear h
  have H' := Lib.hid h'; clear h'
  by_cases hl : xs.length = ys.length
  · have e1 : ((xs.length : Int) != (ys.length : Int)) = false := by simp [hl]
    have Hl := Lib.hid hl; clear hl
    go_enter Try.func16, Try.ntmps16
    go_wp2
    go_loopw [5] (fun i wr => ∃ k : Nat, k ≤ xs.length ∧ i = .int .i64 k ∧ Hid ((xs == ys) = (xs.drop k == ys.drop k)) ∧ Hid (Below w.heap.size w wr) ∧ w.heap.size ≤ wr.heap.size) (fun i _ => xs.length - (intOf i).toNat)
    case atStart => exact ⟨0, Nat.zero_le _, rfl, rfl, Below.refl _ _, Nat.le_refl _⟩
    case round =>
      obtain ⟨k, hk, rfl, hin, hb, hsz⟩ := hrel
      by_cases hlt : k < xs.length
      · have hlt' : k < ys.length := by rw [← Hl.out]; exact hlt
        obtain ⟨b, o, A', d, m, hdx, rfl, _, hx0, hx1, _, hxa, _⟩ := (H.out.below hb.out).getMod hlt
        obtain ⟨b', o', B', d', n, hdy, rfl, _, hy0, hy1, _, hya, _⟩ := (H'.out.below hb.out).getMod hlt'
        have kx0 := cell_regrown hx0
        have kx1 := cell_regrown hx1
        have ky0 := cell_regrown hy0
        have ky1 := cell_regrown hy1
        clear hx0 hx1 hy0 hy1
        have hcall : ∀ (q : Nat) (os : Array Obj), Calls Try.prog 39 #[.agg #[.int .u8 m.name, .slice A' m.args.length d], .agg #[.int .u8 n.name, .slice B' n.args.length d']] (grow (redrawn wr q) os) fun e w'' => e = .returned (.bool (m == n)) ∧ ∃ p : Regrown, w'' = grow (redrawn wr p.d) p.os := fun q os =>
          have hg := below_regrown wr q os
          Calls.regrown_of (sameMods_calls A' B' d d' m n _ (hxa.out.keep fun k hk => hg.block k (Nat.lt_of_lt_of_le hk hsz)) (hya.out.keep fun k hk => hg.block k (Nat.lt_of_lt_of_le hk hsz)) (fun k hk => Nat.lt_of_lt_of_le (Nat.lt_of_lt_of_le hk hsz) hg.size))
        have Hcall := Lib.hid hcall; clear hcall
        generalize hmn : (m == n) = t at Hcall
        have Hmn := Lib.hid hmn; clear hmn
        go_wp2
        refine wp_region_quiet_below (by kernel_rfl) (by kernel_rfl) ?_
        repeat (quiet_step (exact Hcall.out _ _))
        refine wpQuiet_nil ?_
        intro _ hw'
        obtain ⟨⟨dq, osq⟩, hw''⟩ := hw'
        subst hw''
        have hbw : Below w.heap.size w (grow (redrawn wr dq) osq) := hb.out.trans ((below_regrown wr dq osq).mono hsz)
        have Hbw := Lib.hid hbw; clear hbw
        cases t
        · go_wp2
          go_ret
          refine ⟨ret_bool ?_, Hbw.out⟩
          rw [hin.out, hdx.out, hdy.out, List.cons_beq_cons, Hmn.out]; rfl
        · go_wp2
          go_roundw
          case rel =>
            refine ⟨k + 1, by omega, by go_num, ?_, Hbw, Hbw.out.size⟩
            unfold Hid; rw [hin.out, hdx.out, hdy.out, List.cons_beq_cons, Hmn.out]; rfl
          case measure => simp [intOf]; omega
      · go_wp2
        go_ret
        refine ⟨ret_bool ?_, hb.out⟩
        rw [hin.out, drop_end hlt, drop_end (by rw [← Hl.out]; exact hlt)]; rfl
  · have e1 : ((xs.length : Int) != (ys.length : Int)) = true := by simp; omega
    have Hl := Lib.hid hl; clear hl
    go_enter Try.func16, Try.ntmps16
    go_wp2
    go_ret
    refine ⟨ret_bool ?_, Below.refl _ _⟩
    cases hb : xs == ys
    · rfl
    · exact absurd (congrArg List.length (eq_of_beq hb)) Hl.out
end Go.Proofs.Ytldccpmnboebmaa

/-! Az -/
namespace Go.Proofs.Ytldccpmnboebmaa
open Go.RowKit Go.Sort
set_option linter.unusedVariables false

theorem great_no {ms : List Mod} (h : great17 ms = false) : ms.length ≤ 2050 ∧ (¬ 300 < ms.length ∨ 2000 < ms.length) ∧ ∀ m ∈ ms, m.args.length ≤ 20 := by
  unfold great17 at h
  rw [Bool.or_eq_false_iff, Bool.or_eq_false_iff, Bool.and_eq_false_iff] at h
  obtain ⟨h1, h2, h3⟩ := h
  simp only [decide_eq_false_iff_not] at h2 h3
  refine ⟨by omega, by omega, fun m hm => ?_⟩
  rw [List.take_of_length_le (by omega : ms.length ≤ 2100)] at h1
  have := List.any_eq_false.1 h1 m hm
  simp only [decide_eq_true_eq] at this
  omega
set_option maxRecDepth 100000 in
set_option maxHeartbeats 8000000 in
theorem turtleRuns_walk (A : Option Addr) (c : Nat) (ms : List Mod) (t : Tur) (b : Trop) (w : World) (h : SlAt pMod (Old w) w A c ms) (ht0 : Fits .u8 t.1.1) (hb0 : 0 ≤ b.1) : Calls Try.prog 4 #[.slice A ms.length c, .agg #[.int .u8 t.1.1, .int .i64 t.1.2.1, .int .i64 t.1.2.2.1, .int .i64 t.1.2.2.2, .int .i64 t.2], .agg #[.int .u8 b.1, .int .i64 b.2]] w (fun e w' => e = .returned (.bool true) ∧ RowKit.Below w.heap.size w w') := by
  have q1 := h.lenle
  obtain ⟨W, hW⟩ : ∃ W, W = (w.alloc (.cells #[.int .u8 t.1.1, .int .i64 t.1.2.1, .int .i64 t.1.2.2.1, .int .i64 t.1.2.2.2, .int .i64 t.2] 29)).alloc (.cells #[.int .u8 b.1, .int .i64 b.2] 49) := ⟨_, rfl⟩
  have b0 : Blk W w.heap.size 29 #[.int .u8 t.1.1, .int .i64 t.1.2.1, .int .i64 t.1.2.2.1, .int .i64 t.1.2.2.2, .int .i64 t.2] := by rw [hW]; exact (Blk.new w _ _).alloc _
  have b1 : Blk W (w.heap.size + 1) 49 #[.int .u8 b.1, .int .i64 b.2] := by
    rw [hW]
    have := Blk.new (w.alloc (.cells #[.int .u8 t.1.1, .int .i64 t.1.2.1, .int .i64 t.1.2.2.1, .int .i64 t.1.2.2.2, .int .i64 t.2] 29)) 49 #[.int .u8 b.1, .int .i64 b.2]
    simpa using this
  have t0 : RowKit.Below w.heap.size w W := by rw [hW]; exact al2
  have hs := h.later t0
  have gr := great_calls A c ms W hs
  have gn := @great_no ms
  obtain ⟨z, hz⟩ : ∃ z, great17 ms = z := ⟨_, rfl⟩
  rw [hz] at gr gn
  obtain ⟨r, hr⟩ : ∃ r, runT ms t b = r := ⟨_, rfl⟩
  obtain ⟨u, eu⟩ := r
  have B0 := Lib.hid b0; clear b0
  have B1 := Lib.hid b1; clear b1
  have T0 := Lib.hid t0; clear t0
  have H := Lib.hid h; clear h
  have Hs := Lib.hid hs; clear hs
  have Gr := Lib.hid gr; clear gr
  have Gn := Lib.hid gn; clear gn
  have Hz := Lib.hid hz; clear hz
  have Hr := Lib.hid hr; clear hr
  go_enter Try.func4, Try.ntmps4
  go_wp2_with fail
  (try rw [← hW])
  clear hW
  refine Gr.out.mono ?_
  rintro e w1 ⟨rfl, rfl⟩
  cases z
  case true =>
    go_wp2
    go_ret
    exact ⟨rfl, T0.out⟩
  case false =>
    obtain ⟨l1, l2, l3⟩ := Gn.out rfl
    have tw := refTwin_calls A c ms W Hs.out (by omega) (fun m hm => by have := l3 m hm; omega)
    have Tw := Lib.hid tw; clear tw
    have L3 := Lib.hid l3; clear l3
    go_wp2_with fail
    refine Tw.out.mono ?_
    rintro e w2 ⟨A2, c2, rfl, own2, d2⟩
    obtain ⟨_, _, hv1, sl2⟩ := own2.fresh; cases hv1
    have k0 := B0.out.same (d2.block _ B0.out.lt)
    have k1 := B1.out.same (d2.block _ B1.out.lt)
    have tB := T0.out.trans (d2.mono T0.out.size)
    have sw : SlAt pMod (Old w2) w2 A2 c2 ms := sl2.wide fun k hk => hk.2
    clear own2 sl2 d2

    have y0 := k0.cell 0
    have y1 := k0.cell 1
    have y2 := k0.cell 2
    have y3 := k0.cell 3
    have y4 := k0.cell 4
    have x0 := k1.cell 0
    have x1 := k1.cell 1
    have cr := run_calls A2 c2 ms t b w2 sw ht0 hb0
    unfold PlacePost at cr
    rw [Hr.out] at cr
    simp only at cr
    have Cr := Lib.hid cr; clear cr
    have K0 := Lib.hid k0; clear k0
    have K1 := Lib.hid k1; clear k1
    have Sw := Lib.hid sw; clear sw
    have TB := Lib.hid tB; clear tB
    go_wp2_with fail
    refine Cr.out.mono ?_
    rintro e w3 ⟨A3, c3, B3, q3, rfl, sl, sm, dd⟩
    obtain ⟨w4, hw⟩ : ∃ W, W = w3.alloc (.cells #[.slice A3 u.lines.length c3, .slice B3 u.marks.length q3, .int .u8 u.fr.1, .int .i64 u.fr.2.1, .int .i64 u.fr.2.2.1, .int .i64 u.fr.2.2.2, .int .i64 u.drawn] 31) := ⟨_, rfl⟩
    obtain ⟨g8, hg⟩ : ∃ k, k = w3.heap.size := ⟨_, rfl⟩
    have n8 : Blk w4 g8 31 #[.slice A3 u.lines.length c3, .slice B3 u.marks.length q3, .int .u8 u.fr.1, .int .i64 u.fr.2.1, .int .i64 u.fr.2.2.1, .int .i64 u.fr.2.2.2, .int .i64 u.drawn] := by rw [hw, hg]; exact Blk.new w3 _ _
    have d2 : RowKit.Below w3.heap.size w3 w4 := by rw [hw]; exact al1
    have d3 := dd.trans (d2.mono dd.size)
    have k0 := K0.out.same (d3.block _ K0.out.lt)
    have k1 := K1.out.same (d3.block _ K1.out.lt)
    have sw := Sw.out.later d3
    have sl8 := sl.later d2
    have sm8 := sm.later d2
    have tB := TB.out.trans (d3.mono TB.out.size)
    have N8 := Lib.hid n8; clear n8
    have Sl8 := Lib.hid sl8; clear sl8
    have Sm8 := Lib.hid sm8; clear sm8
    clear y0 y1 y2 y3 y4 x0 x1 sl sm dd d2 d3
    go_upto_region 5 with fail
    rw [← hw, ← hg]
    clear hw hg

    have y0 := k0.cell 0
    have y1 := k0.cell 1
    have y2 := k0.cell 2
    have y3 := k0.cell 3
    have y4 := k0.cell 4
    have x0 := k1.cell 0
    have x1 := k1.cell 1
    have cr := rRun_calls A c ms t b w4 (H.out.later tB) ht0 hb0
    unfold PlacePost at cr
    rw [Hr.out] at cr
    simp only at cr
    have Cr := Lib.hid cr; clear cr
    have K0 := Lib.hid k0; clear k0
    have K1 := Lib.hid k1; clear k1
    have Sw := Lib.hid sw; clear sw
    have TB := Lib.hid tB; clear tB
    go_wp2_with fail
    refine Cr.out.mono ?_
    rintro e w5 ⟨A5, c5, B5, q5, rfl, sl, sm, dd⟩
    obtain ⟨w6, hw⟩ : ∃ W, W = w5.alloc (.cells #[.slice A5 u.lines.length c5, .slice B5 u.marks.length q5, .int .u8 u.fr.1, .int .i64 u.fr.2.1, .int .i64 u.fr.2.2.1, .int .i64 u.fr.2.2.2, .int .i64 u.drawn] 31) := ⟨_, rfl⟩
    obtain ⟨g10, hg⟩ : ∃ k, k = w5.heap.size := ⟨_, rfl⟩
    have n10 : Blk w6 g10 31 #[.slice A5 u.lines.length c5, .slice B5 u.marks.length q5, .int .u8 u.fr.1, .int .i64 u.fr.2.1, .int .i64 u.fr.2.2.1, .int .i64 u.fr.2.2.2, .int .i64 u.drawn] := by rw [hw, hg]; exact Blk.new w5 _ _
    have d2 : RowKit.Below w5.heap.size w5 w6 := by rw [hw]; exact al1
    have d3 := dd.trans (d2.mono dd.size)
    have k0 := K0.out.same (d3.block _ K0.out.lt)
    have k1 := K1.out.same (d3.block _ K1.out.lt)
    have sw := Sw.out.later d3
    have sl10 := sl.later d2
    have sm10 := sm.later d2
    have tB := TB.out.trans (d3.mono TB.out.size)
    have n8 := N8.out.same (d3.block _ N8.out.lt)
    have sl8 := Sl8.out.later d3
    have sm8 := Sm8.out.later d3
    have N8 := Lib.hid n8; clear n8
    have Sl8 := Lib.hid sl8; clear sl8
    have Sm8 := Lib.hid sm8; clear sm8
    have N10 := Lib.hid n10; clear n10
    have Sl10 := Lib.hid sl10; clear sl10
    have Sm10 := Lib.hid sm10; clear sm10
    clear y0 y1 y2 y3 y4 x0 x1 sl sm dd d2 d3
    go_upto_region 6 with fail
    rw [← hw, ← hg]
    clear hw hg
    have a0 := N8.out.cell 0
    have a1 := N8.out.cell 1
    have a2 := N8.out.cell 2
    have a3 := N8.out.cell 3
    have a4 := N8.out.cell 4
    have a5 := N8.out.cell 5
    have a6 := N8.out.cell 6
    have b0 := N10.out.cell 0
    have b1 := N10.out.cell 1
    have b2 := N10.out.cell 2
    have b3 := N10.out.cell 3
    have b4 := N10.out.cell 4
    have b5 := N10.out.cell 5
    have b6 := N10.out.cell 6
    have cs := rTSame_calls A3 c3 B3 q3 u A5 c5 B5 q5 u w6 Sl8.out Sm8.out Sl10.out Sm10.out
    rw [decide_eq_true rfl] at cs
    have Cs := Lib.hid cs; clear cs
    have Sw := Lib.hid sw; clear sw
    have TB := Lib.hid tB; clear tB
    go_wp2_with fail
    refine Cs.out.mono ?_
    rintro e w7 ⟨rfl, d7⟩
    have sw := Sw.out.later d7
    have tB := TB.out.trans (d7.mono TB.out.size)
    have cq := refSame_calls A2 A c2 c ms ms w7 sw (H.out.later tB)
    rw [beq_self_eq_true] at cq
    have Cq := Lib.hid cq; clear cq
    have TB := Lib.hid tB; clear tB
    clear a0 a1 a2 a3 a4 a5 a6 b0 b1 b2 b3 b4 b5 b6 d7
    go_wp2_with fail
    refine Cq.out.mono ?_
    rintro e w8 ⟨rfl, d8⟩
    have tB := TB.out.trans (d8.mono TB.out.size)
    clear d8
    have TB := Lib.hid tB; clear tB
    go_wp2
    go_ret
    exact ⟨by simp, TB.out⟩
end Go.Proofs.Ytldccpmnboebmaa

/-! Ar -/
namespace Go.Proofs.Ytldccpmnboebmaa
open Go.RowKit
set_option linter.unusedVariables false

def pTrop : Rp (Int × Int) where
  n := 2
  R _ _ cs f := cs = [.int .u8 f.1, .int .i64 f.2] ∧ Fits .u8 f.1 ∧ Fits .i64 f.2
  len := by rintro F w cs x ⟨rfl, _⟩; rfl
  keep := by rintro F w w' cs x h _; exact h
  wide := by rintro F F' w cs x h _; exact h
  one := by
    rintro F w cs x ⟨rfl, _⟩ v hv
    simp at hv
    rcases hv with rfl | rfl <;> rfl
theorem opens_trp {P : Program} {t : TypeId} {f0 f1 : Field} (ht : P.underlying t = some (.struct #[f0, f1])) (hc : P.cellsOf t = 2) (ho : [f0, f1].map (fun f => (f.offset, P.cellsOf f.type)) = [(0, 1), (1, 1)])
    (o0 : Opens P f0.type (pI .u8)) (o1 : Opens P f1.type (pI .i64)) : Opens P t pTrop := by
  intro H enc w fuel cs x h
  simp only [List.map_cons, List.map_nil, List.cons.injEq, Prod.mk.injEq, and_true] at ho
  obtain ⟨a0, a1⟩ := ho
  obtain ⟨xs, n, rfl, rfl, hl, hlen, hf⟩ := DataW.trod_struct ht h
  rw [hc] at hl
  match cs, hl with
  | [c0, c1], _ =>
    obtain ⟨y0, hy0⟩ := opens_field (f := f0) hlen (i := 0) rfl (hf 0 f0 rfl) o0
    obtain ⟨y1, hy1⟩ := opens_field (f := f1) hlen (i := 1) rfl (hf 1 f1 rfl) o1
    rw [a0.1, a0.2] at hy0
    rw [a1.1, a1.2] at hy1
    obtain ⟨e0, z0⟩ := hy0
    obtain ⟨e1, z1⟩ := hy1
    simp at e0 e1
    subst e0 e1
    exact ⟨(y0, y1), rfl, z0, z1⟩
theorem opens_tropism : Opens Try.prog 49 pTrop := opens_trp Try.underlying49 (by kernel_rfl) (by kernel_rfl) (opens_int Try.underlying5) (opens_int Try.underlying3)
theorem arg_trk {F : Nat → Prop} {w : World} {cs : Array Value} {t : Trk} (h : pTrk.R F w (Value.agg cs).cells.toList t) : ∃ A c B d, cs = #[.slice A t.lines.length c, .slice B t.marks.length d, .int .u8 t.fr.1, .int .i64 t.fr.2.1, .int .i64 t.fr.2.2.1, .int .i64 t.fr.2.2.2, .int .i64 t.drawn] ∧ SlAt pLn F w A c t.lines ∧ SlAt pMk F w B d t.marks ∧ Fits .u8 t.fr.1 ∧ FitV t.fr.2 ∧ Fits .i64 t.drawn := by
  obtain ⟨A, c, B, d, h1, h2⟩ := h
  exact ⟨A, c, B, d, Array.toList_inj.1 (by simpa [Value.cells] using h1), h2⟩
theorem arg_fr {F : Nat → Prop} {w : World} {cs : Array Value} {f : Fr} (h : pFr.R F w (Value.agg cs).cells.toList f) : cs = #[.int .u8 f.1, .int .i64 f.2.1, .int .i64 f.2.2.1, .int .i64 f.2.2.2] ∧ Fits .u8 f.1 ∧ FitV f.2 := by
  obtain ⟨h1, h2⟩ := h
  exact ⟨Array.toList_inj.1 (by simpa [Value.cells] using h1), h2⟩
theorem arg_tur {F : Nat → Prop} {w : World} {cs : Array Value} {t : Tur} (h : pTur.R F w (Value.agg cs).cells.toList t) : cs = #[.int .u8 t.1.1, .int .i64 t.1.2.1, .int .i64 t.1.2.2.1, .int .i64 t.1.2.2.2, .int .i64 t.2] ∧ Fits .u8 t.1.1 ∧ FitV t.1.2 ∧ Fits .i64 t.2 := by
  obtain ⟨h1, h2⟩ := h
  exact ⟨Array.toList_inj.1 (by simpa [Value.cells] using h1), h2⟩
theorem arg_trop {F : Nat → Prop} {w : World} {cs : Array Value} {t : Int × Int} (h : pTrop.R F w (Value.agg cs).cells.toList t) : cs = #[.int .u8 t.1, .int .i64 t.2] ∧ Fits .u8 t.1 ∧ Fits .i64 t.2 := by
  obtain ⟨h1, h2⟩ := h
  exact ⟨Array.toList_inj.1 (by simpa [Value.cells] using h1), h2⟩
end Go.Proofs.Ytldccpmnboebmaa
