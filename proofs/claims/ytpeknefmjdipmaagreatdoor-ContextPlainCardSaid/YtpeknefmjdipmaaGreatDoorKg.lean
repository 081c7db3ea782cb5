/-
  ContextPlain, the walk of the law.
-/
import Derived.Test.YtpeknefmjdipmaaGreatDoorKd
import Derived.Test.YtpeknefmjdipmaaGreatDoorRu
import Derived.Test.YtpeknefmjdipmaaGreatDoorWg
namespace Go.Proofs.YtpeknefmjdipmaaGreatDoor
open Go.RowKit Go.Sort
set_option linter.unusedVariables false

section
variable {α : Type} {E : Rp α} {w : World} {e : TypeId} {base : Nat} {G : Nat → Prop}
/-- one cell of element i is written -/
theorem CellsAre.setE {F : Nat → Prop} {x x' : α} {j : Nat} {u : Value} (hj : j < E.n) (hR : ∀ cs, E.R F w cs x → E.R F w (cs.set j u) x') : ∀ {xs : List α} {cells : List Value} {i : Nat}, CellsAre E F w cells xs → xs[i]? = some x → CellsAre E F w (cells.set (i * E.n + j) u) (xs.set i x')
  | [], _, i, _, h => by simp at h
  | y :: ys, cells, 0, ⟨cs, rest, h1, h2, h3⟩, h => by
    simp only [List.getElem?_cons_zero, Option.some.injEq] at h
    subst h
    rw [Nat.zero_mul, Nat.zero_add, List.set_cons_zero]
    refine ⟨cs.set j u, rest, ?_, hR cs h2, h3⟩
    rw [h1, List.set_append_left _ _ (by rw [E.len h2]; exact hj)]
  | y :: ys, cells, i + 1, ⟨cs, rest, h1, h2, h3⟩, h => by
    simp only [List.getElem?_cons_succ] at h
    rw [List.set_cons_succ]
    refine ⟨cs, rest.set (i * E.n + j) u, ?_, h2, CellsAre.setE hj hR h3 h⟩
    rw [h1, List.set_append_right _ _ (by rw [E.len h2, Nat.add_mul]; omega), E.len h2]
    congr 2
    rw [Nat.add_mul]; omega
theorem Own.setE {g : Nat} {n c : Nat} {xs : List α} (h : Own E e base G w (.slice (some ⟨g, 0, none⟩) n c) xs) {i j : Nat} {x x' : α} {u : Value} (hx : xs[i]? = some x) (hj : j < E.n) (hR : ∀ F w cs, E.R F w cs x → E.R F w (cs.set j u) x') :
    Own E e base G (w.setCell ⟨g, i * E.n + j, none⟩ u) (.slice (some ⟨g, 0, none⟩) n c) (xs.set i x') := by
  obtain ⟨cells, ⟨h1, h2⟩, h3⟩ := h
  have h3' := h3
  rcases h2 with ⟨hv', h0⟩ | ⟨g', cap, cur, hv', hb, hg, hnc, hcm, hsz, htake⟩
  · cases hv'
  · injection hv' with e1 e2 e3
    injection e1 with e1
    injection e1 with e1 _ _
    subst e1 e2 e3
    refine ⟨cells.set (i * E.n + j) u, ⟨by rw [List.length_set, List.length_set]; exact h1, .inr ⟨g, c, cur.setIfInBounds (i * E.n + j) u, by rw [List.length_set], hb, Blk.set (t := e) (cs := cur) hg (i * E.n + j) _, by simpa using hnc, hcm, by simpa using hsz, ?_⟩⟩, ?_⟩
    · rw [Array.toList_setIfInBounds, ← htake, List.take_set]
      simp
    · refine (CellsAre.keep (fun k hk => Below.heap_setCell _ _ _ _ fun he => ?_) (CellsAre.setE hj (fun cs => hR _ _ cs) h3' hx)).wide fun k hk => ⟨hk.1, by simpa [World.setCell] using hk.2.1, hk.2.2⟩
      subst he
      exact hk.2.2 rfl
/-- the cells of element i -/
theorem Own.atE {A : Option Addr} {n c : Nat} {xs : List α} (h : Own E e base G w (.slice A n c) xs) {i : Nat} {x : α} (hx : xs[i]? = some x) (hn : 0 < E.n) :
    ∃ g cs F, A = some ⟨g, 0, none⟩ ∧ base ≤ g ∧ g < w.heap.size ∧ E.R F w cs x ∧ (∀ j u, cs[j]? = some u → w.cell? ⟨g, i * E.n + j, none⟩ = some u) ∧ (∀ k, w.frozen? ⟨g, k, none⟩ = false) ∧ n ≤ c := by
  obtain ⟨cells, ⟨h1, h2⟩, h3⟩ := h
  rcases h2 with ⟨hv, h0⟩ | ⟨g, cap, cur, hv, hb, hg, hnc, hcm, hsz, htake⟩
  · rw [List.eq_nil_of_length_eq_zero h0] at hx; simp at hx
  · cases hv
    obtain ⟨cs, h4, h5⟩ := h3.get hx
    refine ⟨g, cs, _, rfl, hb, (Array.getElem?_eq_some_iff.1 hg).1, h4, fun j u hu => ?_, fun k => Blk.free (t := e) (cs := cur) hg k, hnc⟩
    have h6 := h5 j u hu
    rw [← htake, List.getElem?_take] at h6
    split at h6
    · rw [Blk.cell (t := e) (cs := cur) hg]; simpa using h6
    · cases h6
end
theorem pRul_set2 {r : Rul} : ∀ F w cs, pRul.R F w cs r → pRul.R F w (cs.set 2 (.int .u8 0)) { r with left := 0 } := by
  rintro F w cs ⟨A, c, A', c', rfl, ⟨f1, f2, f3, f4, f5⟩, h1, h2⟩
  exact ⟨A, c, A', c', rfl, ⟨f1, f2, fits_u8 (n := 0) (by decide), f4, f5⟩, h1, h2⟩
theorem pRul_set3 {r : Rul} : ∀ F w cs, pRul.R F w cs r → pRul.R F w (cs.set 3 (.int .u8 0)) { r with right := 0 } := by
  rintro F w cs ⟨A, c, A', c', rfl, ⟨f1, f2, f3, f4, f5⟩, h1, h2⟩
  exact ⟨A, c, A', c', rfl, ⟨f1, f2, f3, fits_u8 (n := 0) (by decide), f5⟩, h1, h2⟩
def halfB (rs : List Rul) (k : Nat) : List Rul := (rs.take k).map bareN ++ rs.drop k
theorem halfB_get {rs : List Rul} {k : Nat} {r : Rul} (h : rs[k]? = some r) : (halfB rs k)[k]? = some r := by
  have hk : k < rs.length := (List.getElem?_eq_some_iff.1 h).1
  unfold halfB
  rw [List.getElem?_append_right (by rw [List.length_map, List.length_take]; omega), List.length_map, List.length_take, Nat.min_eq_left (Nat.le_of_lt hk), Nat.sub_self, List.getElem?_drop, Nat.add_zero, h]
theorem halfB_next {rs : List Rul} {k : Nat} {r : Rul} (h : rs[k]? = some r) : (halfB rs k).set k (bareN r) = halfB rs (k + 1) := by
  have hk : k < rs.length := (List.getElem?_eq_some_iff.1 h).1
  have hd := drop_cons h
  have hl : ((rs.take k).map bareN).length = k := by rw [List.length_map, List.length_take]; omega
  unfold halfB
  rw [List.set_append_right _ _ (by omega), hl, Nat.sub_self, hd, List.set_cons_zero, take_of_drop hd, List.map_append, List.append_assoc]
  rfl
theorem halfB_len (rs : List Rul) (k : Nat) : (halfB rs k).length = rs.length := by
  unfold halfB; simp; omega
theorem halfB_all (rs : List Rul) : halfB rs rs.length = rs.map bareN := by unfold halfB; simp
set_option maxRecDepth 100000 in
set_option maxHeartbeats 8000000 in
theorem contextPlain_walk (A : Option Addr) (c : Nat) (rs : List Rul) (p : ByteArray) (B : Option Addr) (cb : Nat) (ms : List Mod) (w : World) (h : SlAt pRul (Old w) w A c rs) (h1 : SlAt pMod (Old w) w B cb ms) (hL : LibAt w) :
    Calls Tryz.prog 5 #[.slice A rs.length c, .string p, .slice B ms.length cb] w (OkPost w) := by
  have hmx := h.lenle
  have hmy := h1.lenle
  have H := Lib.hid h; clear h
  have H1 := Lib.hid h1; clear h1
  have HL := Lib.hid hL; clear hL
  have out : ∀ (W : World), Below w.heap.size w W → Calls Tryz.prog 7 #[] W fun e W' => e = .returned (.bool true) ∧ Hid (Below w.heap.size w W') := fun W hW => (aliveC_calls W (HL.out.later hW)).mono fun e W' hh => ⟨hh.1, hW.trans (hh.2.mono hW.size)⟩
  have hvc := validC_calls A c rs p B cb ms w H.out H1.out
  have Out := Lib.hid out; clear out
  have Hvc := Lib.hid hvc; clear hvc
  cases hv : validC rs p ms
  · go_enter Tryz.func5, Tryz.ntmps5
    go_wp2_with fail
    refine Hvc.out.mono ?_
    rintro e w1 ⟨rfl, b1⟩
    rw [hv]
    go_wp2_with fail
    refine (Out.out w1 b1).mono ?_
    rintro e w2 ⟨rfl, b2⟩
    go_wp2
    go_ret
    exact ⟨rfl, b2.out⟩
  obtain ⟨hs, hp, hcp, hl, hck⟩ := validC_yes hv
  have hp' : p.size ≤ 1000 := by omega
  have hl50 := hs.l
  have Hs := Lib.hid hs; clear hs
  have Hcp := Lib.hid hcp; clear hcp
  have Hck := Lib.hid hck; clear hck
  go_enter Tryz.func5, Tryz.ntmps5
  go_wp2_with fail
  refine Hvc.out.mono ?_
  rintro e w1 ⟨rfl, b1⟩
  rw [hv]
  clear hv
  have z1 := b1.size
  obtain ⟨W1, hW1⟩ : ∃ W1, W1 = w1.alloc (.cells #[] 38) := ⟨_, rfl⟩
  have hbe : Below w1.heap.size w1 W1 := by rw [hW1]; exact (Below.refl _ _).alloc (Nat.le_refl _) _
  have hze : W1.heap.size = w1.heap.size + 1 := by rw [hW1]; simp
  have hem : Own pRul 38 w1.heap.size (Old w) W1 (.slice (some ⟨w1.heap.size, 0, none⟩) 0 0) ([] : List Rul) := by rw [hW1]; exact Own.empty (Nat.le_refl _)
  have hbW1 := b1.trans (hbe.mono z1)
  have hsl1 : SlAt pRul (Old w) W1 A c rs := H.out.below hbW1
  have hF1 : ∀ q, Old w q → Old w q ∧ q < W1.heap.size ∧ some q ≠ (Value.slice (some ⟨w1.heap.size, 0, none⟩) 0 0).ownBlock := fun q hq => ⟨hq, by have : q < w.heap.size := hq; omega, fun he => by
    have h1 : q < w.heap.size := hq
    have h2 : q = w1.heap.size := Option.some.inj he
    omega⟩
  have hn1 : (([] : List Rul) ++ rs).length = rs.length := rfl
  have hr1 : Room rs.length := room_of (by omega)
  have hba : w1.heap.size ≤ W1.heap.size := by omega
  have hbz := b1
  have B1 := Lib.hid b1; clear b1
  have Hbe := Lib.hid hbe; clear hbe
  have Hem := Lib.hid hem; clear hem
  have HbW1 := Lib.hid hbW1; clear hbW1
  have Hsl1 := Lib.hid hsl1; clear hsl1
  have HF1 := Lib.hid hF1; clear hF1
  have Hn1 := Lib.hid hn1; clear hn1
  have Hr1 := Lib.hid hr1; clear hr1
  have Hbz := Lib.hid hbz; clear hbz
  clear hze
  go_wp2_with (at_builtin; rw [← hW1]; (refine wpList_catG (E := pRul) (xs := []) (v := .slice (some ⟨w1.heap.size, 0, none⟩) 0 0) (base := w1.heap.size) (G := Old w) 33 38 (.agg #[.int .u8 0, .int .i64 0, .int .u8 0, .int .u8 0, .slice none 0 0, .int .i64 0, .slice none 0 0]) 80 (.tmp 19) (.tmp 20) rfl rfl Tryz.underlying33 (by kernel_rfl) rfl (by decide) rfl Hem.out A c rs rfl (Old w) Hsl1.out HF1.out rs.length Hn1.out Hr1.out (by decide) hba ?_); intro A2 c2 w2 hown2 hg2)
  rw [List.nil_append] at hown2
  have hb2 : Below w1.heap.size W1 w2 := hg2.out.bel
  have T2 := Lib.hid (B1.out.trans ((Hbe.out.trans hb2).mono z1))
  have z2 : w1.heap.size ≤ w2.heap.size := by have := hb2.size; omega
  have hst : Own pRul 38 w1.heap.size (Old w) w2 (.slice A2 rs.length c2) (halfB rs 0) := hown2.out
  have hb12 := Hbe.out.trans hb2
  have Hst := Lib.hid hst; clear hst
  have Hb12 := Lib.hid hb12; clear hb12
  have HW1 := Lib.hid hW1; clear hW1
  clear hb2 hg2 hown2 Hem Hsl1 HF1
  go_loopw [8] (fun i wr => ∃ k : Nat, k ≤ rs.length ∧ i = .int .i64 k ∧ w1.heap.size ≤ wr.heap.size ∧ Hid (Below w1.heap.size w1 wr) ∧ Hid (Own pRul 38 w1.heap.size (Old w) wr (.slice A2 rs.length c2) (halfB rs k))) (fun i _ => rs.length - (intOf i).toNat)
  case atStart => exact ⟨0, Nat.zero_le _, rfl, z2, Hb12, Hst⟩
  case round =>
    obtain ⟨k, hk, rfl, hsz, hb, hown⟩ := hrel
    obtain ⟨wo, rfl⟩ : ∃ wo : World, wo = wr := ⟨_, rfl⟩
    by_cases hlt : k < rs.length
    case pos =>
      have hxk : rs[k]? = some rs[k] := List.getElem?_eq_getElem hlt
      obtain ⟨r, hr⟩ : ∃ r, rs[k] = r := ⟨_, rfl⟩
      rw [hr] at hxk
      obtain ⟨g, cs, F, rfl, hg1, hg2, hRr, hcell, hfz, hnc⟩ := hown.out.atE (halfB_get hxk) (by decide)
      have hRr' := hRr
      obtain ⟨Ag, cg, Ao, co, hcs, _⟩ := hRr'
      have c2' : wo.cell? ⟨g, k * 7 + 2, none⟩ = some (.int .u8 r.left) := hcell 2 _ (by rw [hcs]; rfl)
      have c3' : wo.cell? ⟨g, k * 7 + 3, none⟩ = some (.int .u8 r.right) := hcell 3 _ (by rw [hcs]; rfl)
      have f2' := hfz (k * 7 + 2)
      have f3' := hfz (k * 7 + 3)
      have o1 := hown.out.setE (i := k) (j := 2) (u := .int .u8 0) (halfB_get hxk) (by decide) (fun F w cs hh => pRul_set2 F w cs hh)
      have hx1 : ((halfB rs k).set k { r with left := 0 })[k]? = some { r with left := 0 } := by rw [List.getElem?_set_self (by rw [halfB_len]; exact hlt)]
      have o2 := o1.setE (i := k) (j := 3) (u := .int .u8 0) hx1 (by decide) (fun F w cs hh => pRul_set3 F w cs hh)
      rw [List.set_set, show ({ ({ r with left := 0 } : Rul) with right := 0 } : Rul) = bareN r from rfl, halfB_next hxk] at o2
      have f4' : (wo.setCell ⟨g, k * 7 + 2, none⟩ (.int .u8 0)).frozen? ⟨g, k * 7 + 3, none⟩ = false := (World.frozen?_setCell _ _ _ _).trans f3'
      have c4' : (wo.setCell ⟨g, k * 7 + 2, none⟩ (.int .u8 0)).cell? ⟨g, k * 7 + 3, none⟩ = some (.int .u8 r.right) := by
        obtain ⟨g', cs', F', e1, _, _, hR3, hcell3, _⟩ := o1.atE hx1 (by decide)
        cases e1
        obtain ⟨Ag, cg, Ao, co, hcs3, _⟩ := hR3
        exact hcell3 3 _ (by rw [hcs3]; rfl)
      have hb2 : Below w1.heap.size w1 ((wo.setCell ⟨g, k * 7 + 2, none⟩ (.int .u8 0)).setCell ⟨g, k * 7 + 3, none⟩ (.int .u8 0)) := (hb.out.setCell (by show w1.heap.size ≤ g; exact hg1) _).setCell (by show w1.heap.size ≤ g; exact hg1) _
      have hs2 : w1.heap.size ≤ ((wo.setCell ⟨g, k * 7 + 2, none⟩ (.int .u8 0)).setCell ⟨g, k * 7 + 3, none⟩ (.int .u8 0)).heap.size := by simp [World.setCell]; exact hsz
      have k0 : (0 : Int) ≤ (k : Int) := Int.natCast_nonneg _
      have k1 : (k : Int) < (rs.length : Int) := by omega
      have Hxk := Lib.hid hxk; clear hxk
      have HRr := Lib.hid hRr; clear hRr
      have Hcs := Lib.hid hcs; clear hcs
      have O1 := Lib.hid o1; clear o1
      have O2 := Lib.hid o2; clear o2
      have Hx1 := Lib.hid hx1; clear hx1
      have Hb2 := Lib.hid hb2; clear hb2
      have Hs2 := Lib.hid hs2; clear hs2
      have Hown := Lib.hid hown; clear hown
      have Hr := Lib.hid hr; clear hr
      have Hcell := Lib.hid hcell; clear hcell
      have Hfz := Lib.hid hfz; clear hfz
      go_wp2
      go_roundw
      case rel => exact ⟨k + 1, hlt, by go_num, Hs2.out, Hb2, O2⟩
      case measure => simp [intOf]; omega
    case neg =>
      obtain rfl : k = rs.length := by omega
      have ho := hown.out
      rw [halfB_all] at ho
      have hln : (rs.map bareN).length = rs.length := List.length_map _
      obtain ⟨_, hsl⟩ := ho.sl'
      have S3 := Lib.hid ((hsl.wide (F' := Old wo) fun q hq => hq.2))
      have T3 := Lib.hid (Hbz.out.trans (hb.out.mono z1))
      have hsb : Small (rs.map bareN) := ⟨by rw [hln]; exact Hs.out.l, fun x hx => by obtain ⟨y, hy, rfl⟩ := List.mem_map.1 hx; exact Hs.out.g y hy, fun x hx => by obtain ⟨y, hy, rfl⟩ := List.mem_map.1 hx; exact Hs.out.o y hy, fun x hx => by obtain ⟨y, hy, rfl⟩ := List.mem_map.1 hx; exact Hs.out.a y hy⟩
      have c1 := cStep_calls A2 c2 (rs.map bareN) p B cb ms wo S3.out (H1.out.later T3.out) hsb hp'
      rw [hln] at c1
      unfold CStepPost at c1
      rw [step_bare Hcp.out Hck.out] at c1
      obtain ⟨⟨x, ec⟩, hx⟩ : ∃ q, rStepF (rs.map bareN) ms = q := ⟨_, rfl⟩
      rw [hx] at c1
      have ee : (ec == ec) = true := beq_self_eq_true _
      have C1 := Lib.hid c1; clear c1
      have Hsb := Lib.hid hsb; clear hsb
      have Ho := Lib.hid ho; clear ho
      have Hsl := Lib.hid hsl; clear hsl
      have Hx := Lib.hid hx; clear hx
      clear hown
      go_wp2_with fail
      refine C1.out.mono ?_
      rintro e w4 ⟨A4, c4, rfl, o4, b4⟩
      have T4 := Lib.hid (T3.out.trans (b4.mono T3.out.size))
      have S34 := Lib.hid (S3.out.later b4)
      have S4 := Lib.hid (ownF_sl o4); clear b4 o4
      have c5 := rStep_calls A2 c2 (rs.map bareN) B cb ms w4 S34.out (H1.out.later T4.out) Hsb.out
      rw [List.length_map] at c5
      unfold RStepPost at c5
      rw [Hx.out] at c5
      have C5 := Lib.hid c5; clear c5
      go_wp2_with fail
      refine C5.out.mono ?_
      rintro e w5 ⟨A5, c5, rfl, o5, b5⟩
      have T5 := Lib.hid (T4.out.trans (b5.mono T4.out.size))
      have S45 := Lib.hid (S4.out.later b5)
      have S5 := Lib.hid (ownF_sl o5); clear b5 o5
      have p6 := refSame_calls A4 A5 c4 c5 x x w5 S45.out S5.out
      rw [beq_self_eq_true] at p6
      have P6 := Lib.hid p6; clear p6
      go_wp2_with fail
      refine P6.out.mono ?_
      rintro e w6 ⟨rfl, b6⟩
      have T6 := Lib.hid (T5.out.trans (b6.mono T5.out.size)); clear b6
      go_wp2_with fail
      refine (Out.out w6 T6.out).mono ?_
      rintro e w7 ⟨rfl, b7⟩
      go_wp2
      go_ret
      exact ⟨rfl, b7.out⟩
end Go.Proofs.YtpeknefmjdipmaaGreatDoor
