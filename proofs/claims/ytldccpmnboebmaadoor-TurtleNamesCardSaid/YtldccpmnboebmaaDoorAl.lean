/-
  Layer 17: the walk of the program's Run.
-/
import Derived.Test.YtldccpmnboebmaaDoorAk
import Derived.Test.YtldccpmnboebmaaDoorAj
import Derived.Test.YtldccpmnboebmaaDoorM1
import Derived.Test.YtldccpmnboebmaaDoorAb
namespace Go.Proofs.YtldccpmnboebmaaDoor
open Go.RowKit Go.Sort
set_option linter.unusedVariables false

theorem runT_e1 {ms : List Mod} {t : Tur} {b : Trop} (h : checkF ms ≠ 0) : runT ms t b = (zeroT, checkF ms) := by unfold runT; rw [if_neg h]; rfl
theorem runT_e2 {ms : List Mod} {t : Tur} {b : Trop} (h : checkF ms = 0) (h2 : ¬ (checkFr t.1 = 0 ∧ 0 ≤ t.2 ∧ t.2 ≤ 1000000)) : runT ms t b = (zeroT, 8) := by unfold runT; rw [if_pos h, if_neg h2]; rfl
theorem runT_e3 {ms : List Mod} {t : Tur} {b : Trop} (h : checkF ms = 0) (h2 : checkFr t.1 = 0 ∧ 0 ≤ t.2 ∧ t.2 ≤ 1000000) (h3 : ¬ (b.1 ≤ 5 ∧ 0 ≤ b.2 ∧ b.2 ≤ 1000000)) : runT ms t b = (zeroT, 2) := by unfold runT; rw [if_pos h, if_pos h2, if_neg h3]; rfl
theorem runT_e4 {ms : List Mod} {t : Tur} {b : Trop} (h : checkF ms = 0) (h2 : checkFr t.1 = 0 ∧ 0 ≤ t.2 ∧ t.2 ≤ 1000000) (h3 : b.1 ≤ 5 ∧ 0 ≤ b.2 ∧ b.2 ≤ 1000000) : (runF b (beginF t) ms = none → runT ms t b = (zeroT, 16)) ∧ ∀ s, runF b (beginF t) ms = some s → runT ms t b = (trkOf s, 0) := by
  unfold runT
  rw [if_pos h, if_pos h2, if_pos h3]
  exact ⟨fun e => by rw [e]; rfl, fun s e => by rw [e]⟩
theorem scan_zero {ms : List Mod} (h : checkF ms = 0) : ms.length ≤ 2000 ∧ ms.all fineF = true ∧ scan 0 ms = some 0 := by
  unfold checkF at h
  by_cases h1 : 2000 < ms.length
  · rw [if_pos h1] at h; cases h
  · rw [if_neg h1] at h
    cases h2 : ms.all fineF
    · rw [if_pos h2] at h; cases h
    · rw [if_neg (by rw [h2]; decide)] at h
      cases h3 : scan 0 ms with
      | none => rw [h3] at h; cases h
      | some n =>
        rw [h3] at h
        cases n with
        | zero => exact ⟨by omega, rfl, rfl⟩
        | succ n => simp at h
theorem take_grow {b : Trop} {s s' : Sta} {m : Mod} {k : Nat} (h : takeF b s m = some s') (h1 : s.stk.length ≤ k) (h2 : s.lns.length ≤ k) (h3 : s.mks.length ≤ k) : s'.stk.length ≤ k + 1 ∧ s'.lns.length ≤ k + 1 ∧ s'.mks.length ≤ k + 1 := by
  unfold takeF at h
  split at h
  · split at h
    · split at h
      · cases h
      · injection h with h; subst h; simp; omega
    · cases h
  split at h
  · split at h
    · injection h with h; subst h; simp; omega
    · cases h
  split at h
  · injection h with h; subst h; simp; omega
  split at h
  · injection h with h; subst h; simp; omega
  split at h
  · injection h with h; subst h; simp; omega
  split at h
  · injection h with h; subst h; simp; omega
  split at h
  · injection h with h; subst h; simp; omega
  split at h
  · injection h with h; subst h; simp; omega
  split at h
  · injection h with h; subst h; simp; omega
  split at h
  · split at h
    · injection h with h; subst h; simp; omega
    · cases h
  · injection h with h; subst h; simp; omega
theorem scan_take {b : Trop} {s s' : Sta} {m : Mod} {ms : List Mod} {k : Nat} (h : scan s.stk.length (m :: ms) = some k) (ht : takeF b s m = some s') : (m.name = 93 → s.stk ≠ []) ∧ scan s'.stk.length ms = some k := ⟨takeF_pop (b := b) h, takeF_scan h ht⟩

/-- as PlacePost, the track's slices lie in blocks that the call made -/
def FreshPost (r : Trk × Int) (w : World) (e : Ending) (w' : World) : Prop := ∃ A c B d, e = .returned (.tuple #[.agg #[.slice A r.1.lines.length c, .slice B r.1.marks.length d, .int .u8 r.1.fr.1, .int .i64 r.1.fr.2.1, .int .i64 r.1.fr.2.2.1, .int .i64 r.1.fr.2.2.2, .int .i64 r.1.drawn], .int .i64 r.2]) ∧
  SlAt pLn (fun k => w.heap.size ≤ k ∧ k < w'.heap.size) w' A c r.1.lines ∧ SlAt pMk (fun k => w.heap.size ≤ k ∧ k < w'.heap.size) w' B d r.1.marks ∧ RowKit.Below w.heap.size w w'
theorem FreshPost.place {r : Trk × Int} {w : World} {e : Ending} {w' : World} (h : FreshPost r w e w') : PlacePost r w e w' := by
  obtain ⟨A, c, B, d, h1, h2, h3, h4⟩ := h
  exact ⟨A, c, B, d, h1, h2.wide fun k hk => hk.2, h3.wide fun k hk => hk.2, h4⟩
theorem freshPost_zero {r : Trk × Int} {z : Int} {w w' : World} (h : r = (zeroT, z)) (hb : RowKit.Below w.heap.size w w') : FreshPost r w (.returned (.tuple #[.agg #[.slice none 0 0, .slice none 0 0, .int .u8 0, .int .i64 0, .int .i64 0, .int .i64 0, .int .i64 0], .int .i64 z])) w' := by
  subst h
  exact ⟨none, 0, none, 0, rfl, ⟨Nat.le_refl _, Nat.zero_le _, (fun _ => rfl), fun i x hx => by simp [zeroT] at hx⟩, ⟨Nat.le_refl _, Nat.zero_le _, (fun _ => rfl), fun i x hx => by simp [zeroT] at hx⟩, hb⟩
set_option maxRecDepth 100000 in
set_option maxHeartbeats 16000000 in
theorem run_fresh (A : Option Addr) (c : Nat) (ms : List Mod) (t : Tur) (b : Trop) (w : World) (h : SlAt pMod (Old w) w A c ms) (ht0 : Fits .u8 t.1.1) (hb0 : 0 ≤ b.1) :
    Calls Tryd.prog 11 #[.slice A ms.length c, .agg #[.int .u8 t.1.1, .int .i64 t.1.2.1, .int .i64 t.1.2.2.1, .int .i64 t.1.2.2.2, .int .i64 t.2], .agg #[.int .u8 b.1, .int .i64 b.2]] w (FreshPost (runT ms t b) w) := by
  have hmf : ∀ (fn : Fn) (first cap : Array Value) (w : World), (Instr.makeFunc fn first cap).run Tryd.prog w = .ok (.func fn first cap) w := fun _ _ _ _ => rfl
  have q1 := h.lenle
  obtain ⟨W, hW⟩ : ∃ W, W = (((w.alloc (.cells #[.int .u8 t.1.1, .int .i64 t.1.2.1, .int .i64 t.1.2.2.1, .int .i64 t.1.2.2.2, .int .i64 t.2] 28)).alloc (.cells #[.int .u8 b.1, .int .i64 b.2] 30)).alloc (.cells #[.slice none 0 0, .slice none 0 0, .int .u8 0, .int .i64 0, .int .i64 0, .int .i64 0, .int .i64 0] 36)).alloc (.cells #[.int .i64 0] 37) := ⟨_, rfl⟩
  have zW : W.heap.size = w.heap.size + 4 := by rw [hW]; simp
  have b0 : Blk W w.heap.size 28 #[.int .u8 t.1.1, .int .i64 t.1.2.1, .int .i64 t.1.2.2.1, .int .i64 t.1.2.2.2, .int .i64 t.2] := by rw [hW]; exact (((Blk.new w _ _).alloc _).alloc _).alloc _
  have b1 : Blk W (w.heap.size + 1) 30 #[.int .u8 b.1, .int .i64 b.2] := by
    rw [hW]
    have := ((Blk.new (w.alloc (.cells #[.int .u8 t.1.1, .int .i64 t.1.2.1, .int .i64 t.1.2.2.1, .int .i64 t.1.2.2.2, .int .i64 t.2] 28)) 30 #[.int .u8 b.1, .int .i64 b.2]).alloc (.cells #[.slice none 0 0, .slice none 0 0, .int .u8 0, .int .i64 0, .int .i64 0, .int .i64 0, .int .i64 0] 36)).alloc (.cells #[.int .i64 0] 37)
    simpa using this
  have b2 : Blk W (w.heap.size + 1 + 1) 36 #[.slice none 0 0, .slice none 0 0, .int .u8 0, .int .i64 0, .int .i64 0, .int .i64 0, .int .i64 0] := by
    rw [hW]
    have := (Blk.new ((w.alloc (.cells #[.int .u8 t.1.1, .int .i64 t.1.2.1, .int .i64 t.1.2.2.1, .int .i64 t.1.2.2.2, .int .i64 t.2] 28)).alloc (.cells #[.int .u8 b.1, .int .i64 b.2] 30)) 36 #[.slice none 0 0, .slice none 0 0, .int .u8 0, .int .i64 0, .int .i64 0, .int .i64 0, .int .i64 0]).alloc (.cells #[.int .i64 0] 37)
    simpa using this
  have b3 : Blk W (w.heap.size + 1 + 1 + 1) 37 #[.int .i64 0] := by
    rw [hW]
    have := Blk.new (((w.alloc (.cells #[.int .u8 t.1.1, .int .i64 t.1.2.1, .int .i64 t.1.2.2.1, .int .i64 t.1.2.2.2, .int .i64 t.2] 28)).alloc (.cells #[.int .u8 b.1, .int .i64 b.2] 30)).alloc (.cells #[.slice none 0 0, .slice none 0 0, .int .u8 0, .int .i64 0, .int .i64 0, .int .i64 0, .int .i64 0] 36)) 37 #[.int .i64 0]
    simpa using this
  have t0 : RowKit.Below w.heap.size w W := by rw [hW]; exact al3.alloc (by simp; omega) _
  have f1 := fun W' (hb : RowKit.Below w.heap.size w W') => wordCheck_calls A c ms W' (h.later hb)
  have f2 := fun W' => fCheck_calls t.1 W'
  have p1 := @runT_e1 ms t b
  have p2 := @runT_e2 ms t b
  have p3 := @runT_e3 ms t b
  have p4 := @runT_e4 ms t b
  have p5 := @scan_zero ms
  unfold CheckPost at f1
  obtain ⟨z, hz⟩ : ∃ z, checkF ms = z := ⟨_, rfl⟩
  rw [hz] at f1 p1 p2 p3 p4 p5
  obtain ⟨zf, hzf⟩ : ∃ z, checkFr t.1 = z := ⟨_, rfl⟩
  rw [hzf] at f2 p2 p3 p4
  have B0 := Lib.hid b0; clear b0
  have B1 := Lib.hid b1; clear b1
  have B2 := Lib.hid b2; clear b2
  have B3 := Lib.hid b3; clear b3
  have T0 := Lib.hid t0; clear t0
  have H := Lib.hid h; clear h
  have F1 := Lib.hid f1; clear f1
  have F2 := Lib.hid f2; clear f2
  have P1 := Lib.hid p1; clear p1
  have P2 := Lib.hid p2; clear p2
  have P3 := Lib.hid p3; clear p3
  have P4 := Lib.hid p4; clear p4
  have P5 := Lib.hid p5; clear p5
  have Hz := Lib.hid hz; clear hz
  go_enter_defers Tryd.func11, Tryd.ntmps11
  go_wp2_with fail
  (try rw [← hW])
  refine (F1.out _ T0.out).mono ?_
  rintro e w1 ⟨rfl, d1⟩
  have k0 := B0.out.same (d1.block _ B0.out.lt)
  have k1 := B1.out.same (d1.block _ B1.out.lt)
  have k2 := B2.out.same (d1.block _ B2.out.lt)
  have k3 := B3.out.same (d1.block _ B3.out.lt)
  have t1 := T0.out.trans (d1.mono T0.out.size)
  have zw1 := d1.size
  clear d1 hW
  by_cases h0 : z = 0
  case neg =>
    have h0' : (z != 0) = true := by simpa using h0
    have hr1 := P1.out h0
    have n2 := blk_row (cs := #[.slice none 0 0, .slice none 0 0, .int .u8 0, .int .i64 0, .int .i64 0, .int .i64 0, .int .i64 0]) k2
    have n3 := k3.same (setRow_other _ (w.heap.size + 1 + 1) (w.heap.size + 1 + 1 + 1) #[.slice none 0 0, .slice none 0 0, .int .u8 0, .int .i64 0, .int .i64 0, .int .i64 0, .int .i64 0] (by omega))
    have nt := row_below (g := (w.heap.size + 1 + 1)) t1 (by omega) #[.slice none 0 0, .slice none 0 0, .int .u8 0, .int .i64 0, .int .i64 0, .int .i64 0, .int .i64 0]
    have ce := n3.cell 0
    have fe := n3.free 0
    have m2 := blk_off n2 (k := (w.heap.size + 1 + 1 + 1)) (by omega) 0 (.int .i64 z)
    have m3 := (n3.set 0 (.int .i64 z)).cell 0
    have mt := nt.setCell (p := ⟨(w.heap.size + 1 + 1 + 1), 0, none⟩) (by show w.heap.size ≤ (w.heap.size + 1 + 1 + 1); omega) (.int .i64 z)
    have Hr1 := Lib.hid hr1; clear hr1
    have N2 := Lib.hid n2; clear n2
    have N3 := Lib.hid n3; clear n3
    have Nt := Lib.hid nt; clear nt
    have M2 := Lib.hid m2; clear m2
    have M3 := Lib.hid m3; clear m3
    have Mt := Lib.hid mt; clear mt
    go_wp2_with ((with_reducible show wpList _ _ _ (Oper.mk none _ _ _ _ _ :: _) _ _); refine wpList_storeG 36 (.tmp 6) (.tmp 16) _ #[.slice none 0 0, .slice none 0 0, .int .u8 0, .int .i64 0, .int .i64 0, .int .i64 0, .int .i64 0] rfl rfl rfl rfl k2 (by kernel_rfl) rfl (by simp [Value.oneCell']) rfl ?_)
    exact ⟨_, results_2cells (kd := .i64) rfl _ _ _ (w.heap.size + 1 + 1) (w.heap.size + 1 + 1 + 1) 36 #[.slice none 0 0, .slice none 0 0, .int .u8 0, .int .i64 0, .int .i64 0, .int .i64 0, .int .i64 0] z rfl rfl M2.out M3.out Tryd.underlying36 (by kernel_rfl) Tryd.underlying37, freshPost_zero Hr1.out Mt.out⟩
  case pos =>
  subst h0
  have e2 := P2.out rfl
  have e3 := P3.out rfl
  have e4 := P4.out rfl
  obtain ⟨hlen, hall, hscan⟩ := P5.out rfl
  have y0 := k0.cell 0
  have y1 := k0.cell 1
  have y2 := k0.cell 2
  have y3 := k0.cell 3
  have K0 := Lib.hid k0; clear k0
  have K1 := Lib.hid k1; clear k1
  have K2 := Lib.hid k2; clear k2
  have K3 := Lib.hid k3; clear k3
  have T1 := Lib.hid t1; clear t1
  have E2 := Lib.hid e2; clear e2
  have E3 := Lib.hid e3; clear e3
  have E4 := Lib.hid e4; clear e4
  have Hall := Lib.hid hall; clear hall
  have Hscan := Lib.hid hscan; clear hscan
  go_wp2_with fail
  refine (F2.out _).mono ?_
  rintro e w2 ⟨rfl, d2⟩
  have k0 := K0.out.same (d2.block _ K0.out.lt)
  have k1 := K1.out.same (d2.block _ K1.out.lt)
  have k2 := K2.out.same (d2.block _ K2.out.lt)
  have k3 := K3.out.same (d2.block _ K3.out.lt)
  have t2 := T1.out.trans (d2.mono T1.out.size)
  have zw2 := d2.size
  have y4 := k0.cell 4
  clear y0 y1 y2 y3 d2
  by_cases hbad : ¬ (zf = 0 ∧ 0 ≤ t.2 ∧ t.2 ≤ 1000000)
  case pos =>
    have hr1 := E2.out hbad
    rcases (show (zf ≠ 0) ∨ (zf = 0 ∧ t.2 < 0) ∨ (zf = 0 ∧ ¬ t.2 < 0 ∧ 1000000 < t.2) from by omega) with c1 | ⟨c1, c2⟩ | ⟨c1, c2, c3⟩
    · skip
      have c1b : (zf != 0) = true := by simpa using c1
      clear hbad
      have n2 := blk_row (cs := #[.slice none 0 0, .slice none 0 0, .int .u8 0, .int .i64 0, .int .i64 0, .int .i64 0, .int .i64 0]) k2
      have n3 := k3.same (setRow_other _ (w.heap.size + 1 + 1) (w.heap.size + 1 + 1 + 1) #[.slice none 0 0, .slice none 0 0, .int .u8 0, .int .i64 0, .int .i64 0, .int .i64 0, .int .i64 0] (by omega))
      have nt := row_below (g := (w.heap.size + 1 + 1)) t2 (by omega) #[.slice none 0 0, .slice none 0 0, .int .u8 0, .int .i64 0, .int .i64 0, .int .i64 0, .int .i64 0]
      have ce := n3.cell 0
      have fe := n3.free 0
      have m2 := blk_off n2 (k := (w.heap.size + 1 + 1 + 1)) (by omega) 0 (.int .i64 8)
      have m3 := (n3.set 0 (.int .i64 8)).cell 0
      have mt := nt.setCell (p := ⟨(w.heap.size + 1 + 1 + 1), 0, none⟩) (by show w.heap.size ≤ (w.heap.size + 1 + 1 + 1); omega) (.int .i64 8)
      have Hr1 := Lib.hid hr1; clear hr1
      have N2 := Lib.hid n2; clear n2
      have N3 := Lib.hid n3; clear n3
      have Nt := Lib.hid nt; clear nt
      have M2 := Lib.hid m2; clear m2
      have M3 := Lib.hid m3; clear m3
      have Mt := Lib.hid mt; clear mt
      go_wp2_with ((with_reducible show wpList _ _ _ (Oper.mk none _ _ _ _ _ :: _) _ _); refine wpList_storeG 36 (.tmp 6) (.tmp 32) _ #[.slice none 0 0, .slice none 0 0, .int .u8 0, .int .i64 0, .int .i64 0, .int .i64 0, .int .i64 0] rfl rfl rfl rfl k2 (by kernel_rfl) rfl (by simp [Value.oneCell']) rfl ?_)
      exact ⟨_, results_2cells (kd := .i64) rfl _ _ _ (w.heap.size + 1 + 1) (w.heap.size + 1 + 1 + 1) 36 #[.slice none 0 0, .slice none 0 0, .int .u8 0, .int .i64 0, .int .i64 0, .int .i64 0, .int .i64 0] 8 rfl rfl M2.out M3.out Tryd.underlying36 (by kernel_rfl) Tryd.underlying37, freshPost_zero Hr1.out Mt.out⟩
    · skip
      have c1b : (zf != 0) = false := by simpa using c1
      clear hbad
      have n2 := blk_row (cs := #[.slice none 0 0, .slice none 0 0, .int .u8 0, .int .i64 0, .int .i64 0, .int .i64 0, .int .i64 0]) k2
      have n3 := k3.same (setRow_other _ (w.heap.size + 1 + 1) (w.heap.size + 1 + 1 + 1) #[.slice none 0 0, .slice none 0 0, .int .u8 0, .int .i64 0, .int .i64 0, .int .i64 0, .int .i64 0] (by omega))
      have nt := row_below (g := (w.heap.size + 1 + 1)) t2 (by omega) #[.slice none 0 0, .slice none 0 0, .int .u8 0, .int .i64 0, .int .i64 0, .int .i64 0, .int .i64 0]
      have ce := n3.cell 0
      have fe := n3.free 0
      have m2 := blk_off n2 (k := (w.heap.size + 1 + 1 + 1)) (by omega) 0 (.int .i64 8)
      have m3 := (n3.set 0 (.int .i64 8)).cell 0
      have mt := nt.setCell (p := ⟨(w.heap.size + 1 + 1 + 1), 0, none⟩) (by show w.heap.size ≤ (w.heap.size + 1 + 1 + 1); omega) (.int .i64 8)
      have Hr1 := Lib.hid hr1; clear hr1
      have N2 := Lib.hid n2; clear n2
      have N3 := Lib.hid n3; clear n3
      have Nt := Lib.hid nt; clear nt
      have M2 := Lib.hid m2; clear m2
      have M3 := Lib.hid m3; clear m3
      have Mt := Lib.hid mt; clear mt
      go_wp2_with ((with_reducible show wpList _ _ _ (Oper.mk none _ _ _ _ _ :: _) _ _); refine wpList_storeG 36 (.tmp 6) (.tmp 32) _ #[.slice none 0 0, .slice none 0 0, .int .u8 0, .int .i64 0, .int .i64 0, .int .i64 0, .int .i64 0] rfl rfl rfl rfl k2 (by kernel_rfl) rfl (by simp [Value.oneCell']) rfl ?_)
      exact ⟨_, results_2cells (kd := .i64) rfl _ _ _ (w.heap.size + 1 + 1) (w.heap.size + 1 + 1 + 1) 36 #[.slice none 0 0, .slice none 0 0, .int .u8 0, .int .i64 0, .int .i64 0, .int .i64 0, .int .i64 0] 8 rfl rfl M2.out M3.out Tryd.underlying36 (by kernel_rfl) Tryd.underlying37, freshPost_zero Hr1.out Mt.out⟩
    · skip
      have c1b : (zf != 0) = false := by simpa using c1
      clear hbad
      have n2 := blk_row (cs := #[.slice none 0 0, .slice none 0 0, .int .u8 0, .int .i64 0, .int .i64 0, .int .i64 0, .int .i64 0]) k2
      have n3 := k3.same (setRow_other _ (w.heap.size + 1 + 1) (w.heap.size + 1 + 1 + 1) #[.slice none 0 0, .slice none 0 0, .int .u8 0, .int .i64 0, .int .i64 0, .int .i64 0, .int .i64 0] (by omega))
      have nt := row_below (g := (w.heap.size + 1 + 1)) t2 (by omega) #[.slice none 0 0, .slice none 0 0, .int .u8 0, .int .i64 0, .int .i64 0, .int .i64 0, .int .i64 0]
      have ce := n3.cell 0
      have fe := n3.free 0
      have m2 := blk_off n2 (k := (w.heap.size + 1 + 1 + 1)) (by omega) 0 (.int .i64 8)
      have m3 := (n3.set 0 (.int .i64 8)).cell 0
      have mt := nt.setCell (p := ⟨(w.heap.size + 1 + 1 + 1), 0, none⟩) (by show w.heap.size ≤ (w.heap.size + 1 + 1 + 1); omega) (.int .i64 8)
      have Hr1 := Lib.hid hr1; clear hr1
      have N2 := Lib.hid n2; clear n2
      have N3 := Lib.hid n3; clear n3
      have Nt := Lib.hid nt; clear nt
      have M2 := Lib.hid m2; clear m2
      have M3 := Lib.hid m3; clear m3
      have Mt := Lib.hid mt; clear mt
      go_wp2_with ((with_reducible show wpList _ _ _ (Oper.mk none _ _ _ _ _ :: _) _ _); refine wpList_storeG 36 (.tmp 6) (.tmp 32) _ #[.slice none 0 0, .slice none 0 0, .int .u8 0, .int .i64 0, .int .i64 0, .int .i64 0, .int .i64 0] rfl rfl rfl rfl k2 (by kernel_rfl) rfl (by simp [Value.oneCell']) rfl ?_)
      exact ⟨_, results_2cells (kd := .i64) rfl _ _ _ (w.heap.size + 1 + 1) (w.heap.size + 1 + 1 + 1) 36 #[.slice none 0 0, .slice none 0 0, .int .u8 0, .int .i64 0, .int .i64 0, .int .i64 0, .int .i64 0] 8 rfl rfl M2.out M3.out Tryd.underlying36 (by kernel_rfl) Tryd.underlying37, freshPost_zero Hr1.out Mt.out⟩
  case neg =>
  obtain ⟨g1, g2, g3⟩ := Classical.not_not.1 hbad
  clear hbad
  subst g1
  have e3b := E3.out ⟨rfl, g2, g3⟩
  have e4b := E4.out ⟨rfl, g2, g3⟩
  have g2' : ¬ t.2 < 0 := by omega
  have g3' : ¬ 1000000 < t.2 := by omega
  have x0 := k1.cell 0
  have x1 := k1.cell 1
  by_cases hbad : ¬ (b.1 ≤ 5 ∧ 0 ≤ b.2 ∧ b.2 ≤ 1000000)
  case pos =>
    have hr1 := e3b hbad
    have E3b := Lib.hid e3b; clear e3b
    have E4b := Lib.hid e4b; clear e4b
    rcases (show (5 < b.1) ∨ (¬ 5 < b.1 ∧ b.2 < 0) ∨ (¬ 5 < b.1 ∧ ¬ b.2 < 0 ∧ 1000000 < b.2) from by omega) with c1 | ⟨c1, c2⟩ | ⟨c1, c2, c3⟩
    · skip
      clear hbad
      have n2 := blk_row (cs := #[.slice none 0 0, .slice none 0 0, .int .u8 0, .int .i64 0, .int .i64 0, .int .i64 0, .int .i64 0]) k2
      have n3 := k3.same (setRow_other _ (w.heap.size + 1 + 1) (w.heap.size + 1 + 1 + 1) #[.slice none 0 0, .slice none 0 0, .int .u8 0, .int .i64 0, .int .i64 0, .int .i64 0, .int .i64 0] (by omega))
      have nt := row_below (g := (w.heap.size + 1 + 1)) t2 (by omega) #[.slice none 0 0, .slice none 0 0, .int .u8 0, .int .i64 0, .int .i64 0, .int .i64 0, .int .i64 0]
      have ce := n3.cell 0
      have fe := n3.free 0
      have m2 := blk_off n2 (k := (w.heap.size + 1 + 1 + 1)) (by omega) 0 (.int .i64 2)
      have m3 := (n3.set 0 (.int .i64 2)).cell 0
      have mt := nt.setCell (p := ⟨(w.heap.size + 1 + 1 + 1), 0, none⟩) (by show w.heap.size ≤ (w.heap.size + 1 + 1 + 1); omega) (.int .i64 2)
      have Hr1 := Lib.hid hr1; clear hr1
      have N2 := Lib.hid n2; clear n2
      have N3 := Lib.hid n3; clear n3
      have Nt := Lib.hid nt; clear nt
      have M2 := Lib.hid m2; clear m2
      have M3 := Lib.hid m3; clear m3
      have Mt := Lib.hid mt; clear mt
      go_wp2_with ((with_reducible show wpList _ _ _ (Oper.mk none _ _ _ _ _ :: _) _ _); refine wpList_storeG 36 (.tmp 6) (.tmp 46) _ #[.slice none 0 0, .slice none 0 0, .int .u8 0, .int .i64 0, .int .i64 0, .int .i64 0, .int .i64 0] rfl rfl rfl rfl k2 (by kernel_rfl) rfl (by simp [Value.oneCell']) rfl ?_)
      exact ⟨_, results_2cells (kd := .i64) rfl _ _ _ (w.heap.size + 1 + 1) (w.heap.size + 1 + 1 + 1) 36 #[.slice none 0 0, .slice none 0 0, .int .u8 0, .int .i64 0, .int .i64 0, .int .i64 0, .int .i64 0] 2 rfl rfl M2.out M3.out Tryd.underlying36 (by kernel_rfl) Tryd.underlying37, freshPost_zero Hr1.out Mt.out⟩
    · skip
      clear hbad
      have n2 := blk_row (cs := #[.slice none 0 0, .slice none 0 0, .int .u8 0, .int .i64 0, .int .i64 0, .int .i64 0, .int .i64 0]) k2
      have n3 := k3.same (setRow_other _ (w.heap.size + 1 + 1) (w.heap.size + 1 + 1 + 1) #[.slice none 0 0, .slice none 0 0, .int .u8 0, .int .i64 0, .int .i64 0, .int .i64 0, .int .i64 0] (by omega))
      have nt := row_below (g := (w.heap.size + 1 + 1)) t2 (by omega) #[.slice none 0 0, .slice none 0 0, .int .u8 0, .int .i64 0, .int .i64 0, .int .i64 0, .int .i64 0]
      have ce := n3.cell 0
      have fe := n3.free 0
      have m2 := blk_off n2 (k := (w.heap.size + 1 + 1 + 1)) (by omega) 0 (.int .i64 2)
      have m3 := (n3.set 0 (.int .i64 2)).cell 0
      have mt := nt.setCell (p := ⟨(w.heap.size + 1 + 1 + 1), 0, none⟩) (by show w.heap.size ≤ (w.heap.size + 1 + 1 + 1); omega) (.int .i64 2)
      have Hr1 := Lib.hid hr1; clear hr1
      have N2 := Lib.hid n2; clear n2
      have N3 := Lib.hid n3; clear n3
      have Nt := Lib.hid nt; clear nt
      have M2 := Lib.hid m2; clear m2
      have M3 := Lib.hid m3; clear m3
      have Mt := Lib.hid mt; clear mt
      go_wp2_with ((with_reducible show wpList _ _ _ (Oper.mk none _ _ _ _ _ :: _) _ _); refine wpList_storeG 36 (.tmp 6) (.tmp 46) _ #[.slice none 0 0, .slice none 0 0, .int .u8 0, .int .i64 0, .int .i64 0, .int .i64 0, .int .i64 0] rfl rfl rfl rfl k2 (by kernel_rfl) rfl (by simp [Value.oneCell']) rfl ?_)
      exact ⟨_, results_2cells (kd := .i64) rfl _ _ _ (w.heap.size + 1 + 1) (w.heap.size + 1 + 1 + 1) 36 #[.slice none 0 0, .slice none 0 0, .int .u8 0, .int .i64 0, .int .i64 0, .int .i64 0, .int .i64 0] 2 rfl rfl M2.out M3.out Tryd.underlying36 (by kernel_rfl) Tryd.underlying37, freshPost_zero Hr1.out Mt.out⟩
    · skip
      clear hbad
      have n2 := blk_row (cs := #[.slice none 0 0, .slice none 0 0, .int .u8 0, .int .i64 0, .int .i64 0, .int .i64 0, .int .i64 0]) k2
      have n3 := k3.same (setRow_other _ (w.heap.size + 1 + 1) (w.heap.size + 1 + 1 + 1) #[.slice none 0 0, .slice none 0 0, .int .u8 0, .int .i64 0, .int .i64 0, .int .i64 0, .int .i64 0] (by omega))
      have nt := row_below (g := (w.heap.size + 1 + 1)) t2 (by omega) #[.slice none 0 0, .slice none 0 0, .int .u8 0, .int .i64 0, .int .i64 0, .int .i64 0, .int .i64 0]
      have ce := n3.cell 0
      have fe := n3.free 0
      have m2 := blk_off n2 (k := (w.heap.size + 1 + 1 + 1)) (by omega) 0 (.int .i64 2)
      have m3 := (n3.set 0 (.int .i64 2)).cell 0
      have mt := nt.setCell (p := ⟨(w.heap.size + 1 + 1 + 1), 0, none⟩) (by show w.heap.size ≤ (w.heap.size + 1 + 1 + 1); omega) (.int .i64 2)
      have Hr1 := Lib.hid hr1; clear hr1
      have N2 := Lib.hid n2; clear n2
      have N3 := Lib.hid n3; clear n3
      have Nt := Lib.hid nt; clear nt
      have M2 := Lib.hid m2; clear m2
      have M3 := Lib.hid m3; clear m3
      have Mt := Lib.hid mt; clear mt
      go_wp2_with ((with_reducible show wpList _ _ _ (Oper.mk none _ _ _ _ _ :: _) _ _); refine wpList_storeG 36 (.tmp 6) (.tmp 46) _ #[.slice none 0 0, .slice none 0 0, .int .u8 0, .int .i64 0, .int .i64 0, .int .i64 0, .int .i64 0] rfl rfl rfl rfl k2 (by kernel_rfl) rfl (by simp [Value.oneCell']) rfl ?_)
      exact ⟨_, results_2cells (kd := .i64) rfl _ _ _ (w.heap.size + 1 + 1) (w.heap.size + 1 + 1 + 1) 36 #[.slice none 0 0, .slice none 0 0, .int .u8 0, .int .i64 0, .int .i64 0, .int .i64 0, .int .i64 0] 2 rfl rfl M2.out M3.out Tryd.underlying36 (by kernel_rfl) Tryd.underlying37, freshPost_zero Hr1.out Mt.out⟩
  case neg =>
  obtain ⟨j1, j2, j3⟩ := Classical.not_not.1 hbad
  clear hbad
  obtain ⟨e5, e6⟩ := e4b ⟨j1, j2, j3⟩
  clear e3b e4b
  have j1' : ¬ 5 < b.1 := by omega
  have j2' : ¬ b.2 < 0 := by omega
  have j3' : ¬ 1000000 < b.2 := by omega
  have y0 := k0.cell 0
  have y1 := k0.cell 1
  have y2 := k0.cell 2
  have y3 := k0.cell 3
  have hokT : TurOk t := ⟨ht0.u8.1, hzf, g2, g3⟩
  obtain ⟨w3, hw3⟩ : ∃ W, W = w2.alloc (.cells (stRow t b (.slice none 0 0) (.slice none 0 0) (.slice none 0 0)) 72) := ⟨_, rfl⟩
  obtain ⟨g, hg⟩ : ∃ k, k = w2.heap.size := ⟨_, rfl⟩
  have ps : PS g b (.slice none 0 0) (.slice none 0 0) (.slice none 0 0) (beginF t) w3 := by
    rw [hw3, hg]
    exact ⟨Blk.new _ _ _, .inl Own.nil, Own.nil, Own.nil, (by intro k hk; cases hk), (by intro k hk; cases hk), (by intro k hk; cases hk)⟩
  have ab : RowKit.Below w2.heap.size w2 w3 := by rw [hw3]; exact al1
  have k2' := k2.same (ab.block _ k2.lt)
  have k3' := k3.same (ab.block _ k3.lt)
  have t3 := t2.trans (ab.mono t2.size)
  have hgo : (w.heap.size + 1 + 1 + 1) < g := by rw [hg]; exact k3.lt
  clear ab k0 k1 k2 k3 t2
  have Ps := Lib.hid ps; clear ps
  have K2' := Lib.hid k2'; clear k2'
  have K3' := Lib.hid k3'; clear k3'
  have T3 := Lib.hid t3; clear t3
  have E5 := Lib.hid e5; clear e5
  have E6 := Lib.hid e6; clear e6
  have HokT := Lib.hid hokT; clear hokT
  go_upto_region 10 with fail
  unfold stRow at hw3
  rw [← hw3, ← hg]
  clear hw3 hg y0 y1 y2 y3 y4 x0 x1
  go_wp2
  go_loopw [54] (fun i wr => ∃ (k : Nat) (s : Sta), k ≤ ms.length ∧ i = .int .i64 k ∧ s.stk.length ≤ k ∧ s.lns.length ≤ k ∧ s.mks.length ≤ k ∧ Hid (runF b (beginF t) ms = runF b s (ms.drop k)) ∧ Hid (scan s.stk.length (ms.drop k) = some 0) ∧ Hid (StaOk s) ∧ Hid (RowKit.Below w.heap.size w wr) ∧ Hid (Blk wr (w.heap.size + 1 + 1) 36 #[.slice none 0 0, .slice none 0 0, .int .u8 0, .int .i64 0, .int .i64 0, .int .i64 0, .int .i64 0]) ∧ Hid (Blk wr (w.heap.size + 1 + 1 + 1) 37 #[.int .i64 0]) ∧ Hid (∃ K L M, PS g b K L M s wr)) (fun i _ => ms.length - (intOf i).toNat)
  case atStart => exact ⟨0, beginF t, Nat.zero_le _, rfl, Nat.zero_le _, Nat.zero_le _, Nat.zero_le _, rfl, Hscan.out, ⟨HokT.out, fun c hc => by cases hc⟩, T3.out, K2'.out, K3'.out, _, _, _, Ps.out⟩
  case round =>
    obtain ⟨k, s, hk, rfl, l1, l2, l3, hrun, hsc, hok, hbw, hk2, hk3, hps⟩ := hrel
    obtain ⟨wo, rfl⟩ : ∃ wo : World, wo = wr := ⟨_, rfl⟩
    obtain ⟨K, L, M, ps⟩ := hps.out
    clear hps
    by_cases hlt : k < ms.length
    case pos =>
      obtain ⟨bb, oo, A', c', m, hd, rfl, hob, m0, m1, hu8, hma, hml⟩ := (H.out.later hbw.out).getMod hlt
      have hfm : fineF m = true := List.all_eq_true.1 Hall.out m (mem_of_drop hd.out)
      have hsc' := hsc.out
      rw [hd.out] at hsc'
      have hpop := takeF_pop (b := b) hsc'
      have hrun' := hrun.out
      rw [hd.out, runF] at hrun'
      have zwo := hbw.out.size
      obtain ⟨w4, hw4⟩ : ∃ W, W = wo.alloc (.cells #[.int .u8 m.name, .slice A' m.args.length c'] 44) := ⟨_, rfl⟩
      obtain ⟨g11, hg11⟩ : ∃ k, k = wo.heap.size := ⟨_, rfl⟩
      have n11 : Blk w4 g11 44 #[.int .u8 m.name, .slice A' m.args.length c'] := by rw [hw4, hg11]; exact Blk.new _ _ _
      have ab : RowKit.Below wo.heap.size wo w4 := by rw [hw4]; exact al1
      have p4 := ps.later ab
      have k2 := hk2.out.same (ab.block _ hk2.out.lt)
      have k3 := hk3.out.same (ab.block _ hk3.out.lt)
      have t4 := hbw.out.trans (ab.mono hbw.out.size)
      have ma4 : SlAt (pI .i64) (Old wo) w4 A' c' m.args := hma.out.keep fun q hq => ab.block q hq
      have ct := take_calls g b K L M s m A' c' w4 p4 hok.out ⟨hb0, j1⟩ ⟨j2, j3⟩ ma4 (fun q hq => Nat.lt_of_lt_of_le hq ab.size) hfm hpop (by omega) (by omega) (by omega) hu8
      have u0 := n11.cell 0
      have u1 := n11.cell 1
      clear ab ps
      have Hrun' := Lib.hid hrun'; clear hrun'
      have Hsc' := Lib.hid hsc'; clear hsc'
      have Hpop := Lib.hid hpop; clear hpop
      have N11 := Lib.hid n11; clear n11
      have P4 := Lib.hid p4; clear p4
      have K2 := Lib.hid k2; clear k2
      have K3 := Lib.hid k3; clear k3
      have T4 := Lib.hid t4; clear t4
      have Ct := Lib.hid ct; clear ct
      have Hfm := Lib.hid hfm; clear hfm
      clear hrun hsc hd hbw hk2 hk3
      go_upto_region 13 with fail
      rw [← hw4, ← hg11]
      clear hw4 hg11 m0 m1
      go_wp2_with fail
      refine Ct.out.mono ?_
      rintro e w5 htp
      unfold TakePost at htp
      cases htk : takeF b s m with
      | none =>
        rw [htk] at htp
        obtain ⟨rfl, hb5⟩ := htp
        have hnone := Hrun'.out
        rw [htk] at hnone
        simp only at hnone
        have hr1 := E5.out hnone
        have k2 := K2.out.same (hb5.block _ (by omega))
        have k3 := K3.out.same (hb5.block _ hgo)
        have t5 := T4.out.trans (hb5.mono (by omega))
        have cp := catch_panicking (w.heap.size + 1 + 1) (w.heap.size + 1 + 1 + 1) 114 (.agg #[]) [] 0 w5 (by omega) k2 k3
        obtain ⟨c1, c2, c3⟩ := caught_blk (by omega) k2 k3
        have c4 := c3 w.heap.size w t5 (by omega) (by omega)
        have Hr1 := Lib.hid hr1; clear hr1
        have K2 := Lib.hid k2; clear k2
        have K3 := Lib.hid k3; clear k3
        have T5 := Lib.hid t5; clear t5
        have Cp := Lib.hid cp; clear cp
        have C1 := Lib.hid c1; clear c1
        have C2 := Lib.hid c2; clear c2
        have C4 := Lib.hid c4; clear c4
        clear c3 hb5 u0 u1 hnone
        go_wp2
        refine leaves_cons (f := 26) (args := #[.pointer (some ⟨(w.heap.size + 1 + 1), 0, none⟩), .pointer (some ⟨(w.heap.size + 1 + 1 + 1), 0, none⟩)]) (by simp) (by simp [go_sem]) ?_
        refine Cp.out.mono ?_
        rintro e u' w6 ⟨rfl, rfl, rfl⟩
        exact ⟨_, results_2cells (kd := .i64) rfl _ _ _ (w.heap.size + 1 + 1) (w.heap.size + 1 + 1 + 1) 36 #[.slice none 0 0, .slice none 0 0, .int .u8 0, .int .i64 0, .int .i64 0, .int .i64 0, .int .i64 0] 16 rfl rfl C1.out C2.out Tryd.underlying36 (by kernel_rfl) Tryd.underlying37, freshPost_zero Hr1.out C4.out⟩
      | some s' =>
        rw [htk] at htp
        obtain ⟨rfl, hp5, hb5⟩ := htp
        have hsome := Hrun'.out
        rw [htk] at hsome
        simp only at hsome
        have hsc5 := takeF_scan Hsc'.out htk
        have hok5 := takeF_ok hok.out ⟨hb0, j1⟩ htk
        obtain ⟨i1, i2, i3⟩ := take_grow htk l1 l2 l3
        have k2 := K2.out.same (hb5.block _ (by omega))
        have k3 := K3.out.same (hb5.block _ hgo)
        have t5 := T4.out.trans (hb5.mono (by omega))
        have Hsome := Lib.hid hsome; clear hsome
        have Hsc5 := Lib.hid hsc5; clear hsc5
        have Hok5 := Lib.hid hok5; clear hok5
        have K2 := Lib.hid k2; clear k2
        have K3 := Lib.hid k3; clear k3
        have T5 := Lib.hid t5; clear t5
        have Hp5 := Lib.hid hp5; clear hp5
        clear hb5 u0 u1 htk
        go_wp2
        go_roundw
        case rel => exact ⟨k + 1, s', hlt, by go_num, i1, i2, i3, Hsome, Hsc5, Hok5, T5, K2, K3, Hp5⟩
        case measure => simp [intOf]; omega
    case neg =>
      have hnil : ms.drop k = [] := List.drop_eq_nil_of_le (by omega)
      have hfin := hrun.out
      rw [hnil] at hfin
      have hr1 := E6.out s hfin
      obtain ⟨Al, cl, rfl, sl⟩ := ps.ol.sl
      obtain ⟨Am, cm, rfl, sm⟩ := ps.om.sl
      have hb := ps.blk
      unfold stRow at hb
      have x0 := hb.cell 0
      have x1 := hb.cell 1
      have x2 := hb.cell 2
      have x3 := hb.cell 3
      have x4 := hb.cell 4
      have zg := hb.lt
      obtain ⟨cu, stk, lns, mks⟩ := s
      simp only at x0 x1 x2 x3 x4 hb ps sl sm hr1
      obtain ⟨wz, hwz⟩ : ∃ W, W = wo.setRow g #[.int .u8 cu.1.1, .int .i64 cu.1.2.1, .int .i64 cu.1.2.2.1, .int .i64 cu.1.2.2.2, .int .i64 cu.2, .int .u8 b.1, .int .i64 b.2, K, .slice Al lns.length cl, .slice Am mks.length cm, .int .u8 cu.1.1, .int .i64 cu.1.2.1, .int .i64 cu.1.2.2.1, .int .i64 cu.1.2.2.2, .int .i64 cu.2] := ⟨_, rfl⟩
      have uz := (Upd.refl ps.blk).setRow #[.int .u8 cu.1.1, .int .i64 cu.1.2.1, .int .i64 cu.1.2.2.1, .int .i64 cu.1.2.2.2, .int .i64 cu.2, .int .u8 b.1, .int .i64 b.2, K, .slice Al lns.length cl, .slice Am mks.length cm, .int .u8 cu.1.1, .int .i64 cu.1.2.1, .int .i64 cu.1.2.2.1, .int .i64 cu.1.2.2.2, .int .i64 cu.2]
      rw [← hwz] at uz
      have olz := ps.ol.upd uz (Nat.lt_succ_self _)
      have omz := ps.om.upd uz (Nat.lt_succ_self _)
      have k2 := hk2.out.same (uz.oth _ hk2.out.lt (by omega))
      have k3 := hk3.out.same (uz.oth _ hk3.out.lt (by omega))
      have tz := hbw.out.trans (uz.bel w.heap.size (by omega) hbw.out.size)
      have nz := uz.blk
      have n8 := nz.cell 8
      have n9 := nz.cell 9
      have n10 := nz.cell 10
      have n11 := nz.cell 11
      have n12 := nz.cell 12
      have n13 := nz.cell 13
      have n14 := nz.cell 14
      have rr : trkOf ⟨cu, stk, lns, mks⟩ = ⟨lns, mks, cu.1, cu.2⟩ := rfl
      obtain ⟨wy, hwy⟩ : ∃ W, W = wz.setRow (w.heap.size + 1 + 1) #[.slice Al lns.length cl, .slice Am mks.length cm, .int .u8 cu.1.1, .int .i64 cu.1.2.1, .int .i64 cu.1.2.2.1, .int .i64 cu.1.2.2.2, .int .i64 cu.2] := ⟨_, rfl⟩
      have uy := (Upd.refl k2).setRow #[.slice Al lns.length cl, .slice Am mks.length cm, .int .u8 cu.1.1, .int .i64 cu.1.2.1, .int .i64 cu.1.2.2.1, .int .i64 cu.1.2.2.2, .int .i64 cu.2]
      rw [← hwy] at uy
      have oly := olz.upd uy (by omega)
      have omy := omz.upd uy (by omega)
      have k3y := k3.same (uy.oth _ k3.lt (by omega))
      have ty := tz.trans (uy.bel w.heap.size (by omega) tz.size)
      have ny := uy.blk
      have ce := k3y.cell 0
      have fe := k3y.free 0
      have lx := own_off (k := (w.heap.size + 1 + 1 + 1)) (j := 0) (u := .int .i64 0) oly (by omega)
      have ly := own_off (k := (w.heap.size + 1 + 1 + 1)) (j := 0) (u := .int .i64 0) omy (by omega)
      have m2 := blk_off ny (k := (w.heap.size + 1 + 1 + 1)) (by omega) 0 (.int .i64 0)
      have m3 := (k3y.set 0 (.int .i64 0)).cell 0
      have mt := ty.setCell (p := ⟨(w.heap.size + 1 + 1 + 1), 0, none⟩) (by show w.heap.size ≤ (w.heap.size + 1 + 1 + 1); omega) (.int .i64 0)
      have ci := catch_idle (w.heap.size + 1 + 1) (w.heap.size + 1 + 1 + 1) (wy.setCell ⟨(w.heap.size + 1 + 1 + 1), 0, none⟩ (.int .i64 0))
      clear ps sl sm
      have Uz := Lib.hid uz; clear uz
      have Olz := Lib.hid olz; clear olz
      have Omz := Lib.hid omz; clear omz
      have K2 := Lib.hid k2; clear k2
      have K3 := Lib.hid k3; clear k3
      have Tz := Lib.hid tz; clear tz
      have Nz := Lib.hid nz; clear nz
      have Uy := Lib.hid uy; clear uy
      have Oly := Lib.hid oly; clear oly
      have Omy := Lib.hid omy; clear omy
      have K3y := Lib.hid k3y; clear k3y
      have Ty := Lib.hid ty; clear ty
      have Ny := Lib.hid ny; clear ny
      have Lx := Lib.hid lx; clear lx
      have Ly := Lib.hid ly; clear ly
      have M2 := Lib.hid m2; clear m2
      have M3 := Lib.hid m3; clear m3
      have Mt := Lib.hid mt; clear mt
      have Hr1 := Lib.hid hr1; clear hr1
      have Hfin := Lib.hid hfin; clear hfin
      have Rr := Lib.hid rr; clear rr
      have Ci := Lib.hid ci; clear ci
      have Hwy := Lib.hid hwy; clear hwy
      clear hrun hsc hbw hk2 hk3
      go_upto_region 16 with ((with_reducible show wpList _ _ _ (Oper.mk none _ _ _ _ _ :: _) _ _); refine wpList_storeAtG 28 (.tmp 69) (.tmp 66) 10 _ #[.int .u8 cu.1.1, .int .i64 cu.1.2.1, .int .i64 cu.1.2.2.1, .int .i64 cu.1.2.2.2, .int .i64 cu.2] #[.int .u8 cu.1.1, .int .i64 cu.1.2.1, .int .i64 cu.1.2.2.1, .int .i64 cu.1.2.2.2, .int .i64 cu.2, .int .u8 b.1, .int .i64 b.2, K, .slice Al lns.length cl, .slice Am mks.length cm, .int .u8 cu.1.1, .int .i64 cu.1.2.1, .int .i64 cu.1.2.2.1, .int .i64 cu.1.2.2.2, .int .i64 cu.2] rfl rfl rfl rfl hb (by kernel_rfl) (by simp) (by simp [Value.oneCell']) rfl rfl ?_)
      rw [← hwz]
      clear hwz x0 x1 x2 x3 x4 hb
      go_wp2_with ((with_reducible show wpList _ _ _ (Oper.mk none _ _ _ _ _ :: _) _ _); refine wpList_storeG 36 (.tmp 6) (.tmp 73) _ #[.slice Al lns.length cl, .slice Am mks.length cm, .int .u8 cu.1.1, .int .i64 cu.1.2.1, .int .i64 cu.1.2.2.1, .int .i64 cu.1.2.2.2, .int .i64 cu.2] rfl rfl rfl rfl K2.out (by kernel_rfl) rfl (by simp [Value.oneCell']) rfl ?_; rw [← Hwy.out])
      refine leaves_cons (f := 26) (args := #[.pointer (some ⟨(w.heap.size + 1 + 1), 0, none⟩), .pointer (some ⟨(w.heap.size + 1 + 1 + 1), 0, none⟩)]) (by simp) (by simp [go_sem]) ?_
      refine Ci.out.mono ?_
      rintro e u' w6 ⟨rfl, rfl, rfl⟩
      refine ⟨_, results_2cells (kd := .i64) rfl _ _ _ (w.heap.size + 1 + 1) (w.heap.size + 1 + 1 + 1) 36 #[.slice Al lns.length cl, .slice Am mks.length cm, .int .u8 cu.1.1, .int .i64 cu.1.2.1, .int .i64 cu.1.2.2.1, .int .i64 cu.1.2.2.2, .int .i64 cu.2] 0 rfl rfl M2.out M3.out Tryd.underlying36 (by kernel_rfl) Tryd.underlying37, ?_⟩
      have sx := Lx.out.sl'
      have sy := Ly.out.sl'
      rw [Hr1.out, Rr.out]
      exact ⟨Al, cl, Am, cm, rfl, sx.2.wide fun k hk => ⟨hk.1.elim False.elim fun h => by omega, hk.2⟩, sy.2.wide fun k hk => ⟨hk.1.elim False.elim fun h => by omega, hk.2⟩, Mt.out⟩
theorem run_calls (A : Option Addr) (c : Nat) (ms : List Mod) (t : Tur) (b : Trop) (w : World) (h : SlAt pMod (Old w) w A c ms) (ht0 : Fits .u8 t.1.1) (hb0 : 0 ≤ b.1) :
    Calls Tryd.prog 11 #[.slice A ms.length c, .agg #[.int .u8 t.1.1, .int .i64 t.1.2.1, .int .i64 t.1.2.2.1, .int .i64 t.1.2.2.2, .int .i64 t.2], .agg #[.int .u8 b.1, .int .i64 b.2]] w (PlacePost (runT ms t b) w) :=
  (run_fresh A c ms t b w h ht0 hb0).mono fun e w' hh => hh.place
end Go.Proofs.YtldccpmnboebmaaDoor
