/-
  ContextFits, the walk of the law.
-/
import Derived.Test.YtpeknefmjdipmaaGreatDoorKd
import Derived.Test.YtpeknefmjdipmaaGreatDoorCj
import Derived.Test.YtpeknefmjdipmaaGreatDoorFh
import Derived.Deep.RegionWith
import Derived.Deep.QuietTactic
import Derived.ChangeAlike
import Derived.Deep.DeepCutAuto
namespace Go.Proofs.YtpeknefmjdipmaaGreatDoor
open Go.RowKit Go.Sort
set_option linter.unusedVariables false
theorem side_okF {f : Nat → Int} {ms : List Mod} {p : ByteArray} {k : Nat} (hck : checkF ms = 0) (hig : ignF p = true) (hk : k < ms.length) (hb : brkB (nameAt ms k) = false) : sideF f ms (k : Int) p = (f k, 0) := by
  have h : askedF ms (k : Int) p = 0 := by unfold askedF; rw [if_pos hck, Int.toNat_natCast, if_pos ⟨Int.natCast_nonneg _, by omega, hb⟩, if_pos hig]
  unfold sideF; rw [if_pos h, Int.toNat_natCast]
theorem brkB_noF {c : Int} (h1 : (c == 91) = false) (h2 : (c == 93) = false) : brkB c = false := by unfold brkB; rw [h1, h2]; rfl
theorem fitC_at {p : ByteArray} {ms : List Mod} {i : Nat} {m : Mod} {r : Rul} (hm : ms[i]? = some m) : fitC p ms i r = (fitsF r m && atB ms (leftF p ms i) r.left && atB ms (rightF p ms i) r.right) := by
  unfold fitC
  rw [show ms.getD i ⟨0, []⟩ = m from by rw [List.getD_eq_getElem?_getD, hm]; rfl]
theorem drewK {B : Nat} {a w : World} (h : Below B a w) : Below B a w.drew := ⟨h.os, h.tape, h.output, h.size, h.block⟩
theorem nameAt_cell {F : Nat → Prop} {W : World} {b o c : Nat} {ms : List Mod} (h : SlAt pMod F W (some ⟨b, o, none⟩) c ms) {a : Nat} (ha : a < ms.length) : W.cell? ⟨b, o + a * 2, none⟩ = some (.int .u8 (nameAt ms a)) := by
  obtain ⟨b', o', _, _, m, hd, hA, _, q0, _⟩ := h.getMod ha
  injection hA with hA
  injection hA with e1 e2 _
  subst e1 e2
  rw [nameAt_drop hd.out]; exact q0
theorem atB_ways (ms : List Mod) (v x : Int) (h : v < 0 ∨ ∃ a : Nat, v = (a : Int) ∧ a < ms.length) : (atB ms v x = true ∧ (x == 0) = true) ∨ (atB ms v x = true ∧ (x == 0) = false ∧ ∃ a : Nat, v = (a : Int) ∧ a < ms.length ∧ (nameAt ms a == x) = true) ∨
    (atB ms v x = false ∧ (x == 0) = false ∧ v < 0) ∨ (atB ms v x = false ∧ (x == 0) = false ∧ ∃ a : Nat, v = (a : Int) ∧ a < ms.length ∧ (nameAt ms a == x) = false) := by
  cases hx : (x == 0)
  · refine .inr ?_
    rcases h with h | ⟨a, rfl, ha⟩
    · exact .inr (.inl ⟨by unfold atB; rw [hx, decide_eq_false (by omega)]; rfl, rfl, h⟩)
    · cases hn : (nameAt ms a == x)
      · exact .inr (.inr ⟨by unfold atB; rw [hx, Int.toNat_natCast, hn]; simp, rfl, a, rfl, ha, hn⟩)
      · exact .inl ⟨by unfold atB; rw [hx, Int.toNat_natCast, hn, decide_eq_true (Int.natCast_nonneg a)]; rfl, rfl, a, rfl, ha, hn⟩
  · exact .inl ⟨by unfold atB; rw [hx]; rfl, rfl⟩
set_option maxRecDepth 100000 in
set_option maxHeartbeats 16000000 in
theorem contextFits_walk (A : Option Addr) (c : Nat) (rs : List Rul) (p : ByteArray) (B : Option Addr) (cb : Nat) (ms : List Mod) (iz : Int) (w : World) (h : SlAt pRul (Old w) w A c rs) (h1 : SlAt pMod (Old w) w B cb ms) (hi : Fits .i64 iz) (hL : LibAt w) :
    Calls Tryz.prog 4 #[.slice A rs.length c, .string p, .slice B ms.length cb, .int .i64 iz] w (OkPost w) := by
  have hmx := h.lenle
  have hmy := h1.lenle
  have hi64 := hi.i64
  have H := Lib.hid h; clear h
  have H1 := Lib.hid h1; clear h1
  have HL := Lib.hid hL; clear hL
  have out : ∀ (W : World), Below w.heap.size w W → Calls Tryz.prog 7 #[] W fun e W' => e = .returned (.bool true) ∧ Hid (Below w.heap.size w W') := fun W hW => (aliveC_calls W (HL.out.later hW)).mono fun e W' hh => ⟨hh.1, hW.trans (hh.2.mono hW.size)⟩
  have hvc := validC_calls A c rs p B cb ms w H.out H1.out
  have Out := Lib.hid out; clear out
  have Hvc := Lib.hid hvc; clear hvc
  cases hv : validC rs p ms
  · go_enter Tryz.func4, Tryz.ntmps4
    go_wp2_with fail
    refine Hvc.out.mono ?_
    rintro e w1 ⟨rfl, b1⟩
    rw [hv]
    go_wp2_with fail
    refine (Out.out w1 b1).mono ?_
    rintro e w2 ⟨rfl, b2⟩
    go_wp2
    go_ret
    exact ⟨rfl, b2.out⟩
  by_cases hrange : iz < 0 ∨ (¬ iz < 0 ∧ (ms.length : Int) ≤ iz)
  · rcases hrange with q1 | ⟨q1, q2⟩
    all_goals
      go_enter Tryz.func4, Tryz.ntmps4
      go_wp2_with fail
      refine Hvc.out.mono ?_
      rintro e w1 ⟨rfl, b1⟩
      rw [hv]
      go_wp2_with fail
      refine (Out.out w1 b1).mono ?_
      rintro e w2 ⟨rfl, b2⟩
      go_wp2
      go_ret
      exact ⟨rfl, b2.out⟩
  obtain ⟨i, rfl⟩ := Int.eq_ofNat_of_zero_le (show 0 ≤ iz by omega)
  have hil : i < ms.length := by omega
  have i0 : ¬ (i : Int) < 0 := by omega
  have i1 : (0 : Int) ≤ (i : Int) := by omega
  have i2 : (i : Int) < (ms.length : Int) := by omega
  have i3 : ¬ (ms.length : Int) ≤ (i : Int) := by omega
  clear hrange hi64
  obtain ⟨bm, om, D, d, m, hd, rfl, hobm, q0, q1, hx8, hxa, hxl⟩ := H1.out.getMod hil
  have hobw : bm < w.heap.size := hobm
  have hnm := nameAt_drop hd.out
  have names : ∀ W, Below w.heap.size w W → W.cell? ⟨bm, om + i * 2, none⟩ = some (.int .u8 m.name) ∧ W.cell? ⟨bm, om + i * 2 + 1, none⟩ = some (.slice D m.args.length d) := fun W hW =>
    ⟨(cell_keep (o := om + i * 2) (hW.block bm hobw)).trans q0, (cell_keep (o := om + i * 2 + 1) (hW.block bm hobw)).trans q1⟩
  clear q0 q1
  by_cases hbr : m.name = 91 ∨ m.name = 93
  · have hbr2 : (m.name == 91) = true ∨ ((m.name == 91) = false ∧ (m.name == 93) = true) := by
      rcases hbr with e | e
      · exact .inl (by simpa using e)
      · exact .inr ⟨by simp; omega, by simpa using e⟩
    clear hbr
    have Names := Lib.hid names; clear names
    have Hnm := Lib.hid hnm; clear hnm
    have Hd := Lib.hid hd; clear hd
    rcases hbr2 with e1 | ⟨e1, e2⟩
    all_goals
      go_enter Tryz.func4, Tryz.ntmps4
      go_wp2_with fail
      refine Hvc.out.mono ?_
      rintro e w1 ⟨rfl, b1⟩
      rw [hv]
      obtain ⟨q0, q1⟩ := Names.out w1 b1
      have B1 := Lib.hid b1; clear b1
      go_wp2_with fail
      refine (Out.out w1 B1.out).mono ?_
      rintro e w2 ⟨rfl, b2⟩
      go_wp2
      go_ret
      exact ⟨rfl, b2.out⟩
  have e91 : (m.name == 91) = false := by simp; omega
  have e93 : (m.name == 93) = false := by simp; omega
  clear hbr
  obtain ⟨hs, hp, hcp, hl, hck⟩ := validC_yes hv
  have hig : ignF p = true := (checkC_parts hcp).2.1
  have hp' : p.size ≤ 1000 := by omega
  have hbk : brkB (nameAt ms i) = false := by rw [hnm]; exact brkB_noF e91 e93
  have hop : openC rs p ms = 0 := by rw [openC_good hcp]; exact hck
  have cf := cFind_calls A c rs (some ⟨bm, om, none⟩) cb ms p (i : Int)
  have hmi := get_of_drop hd.out
  have hfm : fineF m = true := checkF_fine hck m (mem_of_drop hd.out)
  have lr := leftF_rng p ms i
  have rr := rightF_rng p ms i hil
  have fr := findC_rng (p := p) (rs := rs) (ms := ms) (i := i)
  have fit := fun (r : Rul) => fitC_at (p := p) (r := r) hmi
  have fb := fun (r : Rul) (hr : r ∈ rs) => find_bare hcp hr hfm
  obtain ⟨Kv, hKv⟩ : ∃ x, findC p rs ms i = x := ⟨_, rfl⟩
  obtain ⟨Lv, hLv⟩ : ∃ x, leftF p ms i = x := ⟨_, rfl⟩
  obtain ⟨Rv, hRv⟩ : ∃ x, rightF p ms i = x := ⟨_, rfl⟩
  have cF := fun W (hW : Below w.heap.size w W) => by
    have := cf W (H.out.later hW) (H1.out.later hW) hs hi hp'
    rw [cFindF_in hop hil, hKv] at this
    exact this
  have cLt := fun W (hW : Below w.heap.size w W) => by
    have := left_calls (some ⟨bm, om, none⟩) cb ms (i : Int) p W (H1.out.later hW) hi hp'
    rw [side_okF hck hig hil hbk, hLv] at this
    exact this
  have cRt := fun W (hW : Below w.heap.size w W) => by
    have := right_calls (some ⟨bm, om, none⟩) cb ms (i : Int) p W (H1.out.later hW) hi hp'
    rw [side_okF hck hig hil hbk, hRv] at this
    exact this
  simp only [hLv, hRv] at fit
  rw [hLv] at lr
  rw [hRv] at rr
  rw [hKv] at fr
  have hfst : Hid (Kv = firstC (fitC p ms i) (rs.drop 0) 0) := by unfold Hid; rw [List.drop_zero, ← hKv]; rfl
  have t1 : ¬ Kv < -1 := by omega
  have t2 : ¬ (rs.length : Int) ≤ Kv := by omega
  have t3 : ¬ (ms.length : Int) ≤ Lv := by omega
  have t4 : ¬ (ms.length : Int) ≤ Rv := by omega
  have hlb : Lv < 0 ∨ ∃ a : Nat, Lv = (a : Int) ∧ a < ms.length := by
    by_cases h0 : Lv < 0
    · exact .inl h0
    · exact .inr ⟨Lv.toNat, by omega, by omega⟩
  have hrb : Rv < 0 ∨ ∃ a : Nat, Rv = (a : Int) ∧ a < ms.length := by
    by_cases h0 : Rv < 0
    · exact .inl h0
    · exact .inr ⟨Rv.toNat, by omega, by omega⟩
  have hll := hs.l
  have hxl10 := hxl
  clear cf lr rr fr
  have Hs := Lib.hid hs; clear hs
  have Hcp := Lib.hid hcp; clear hcp
  have Hck := Lib.hid hck; clear hck
  have Hig := Lib.hid hig; clear hig
  have Hbk := Lib.hid hbk; clear hbk
  have Hop := Lib.hid hop; clear hop
  have Hmi := Lib.hid hmi; clear hmi
  have Hfm := Lib.hid hfm; clear hfm
  have Fit := Lib.hid fit; clear fit
  have Fb := Lib.hid fb; clear fb
  have HKv := Lib.hid hKv; clear hKv
  have HLv := Lib.hid hLv; clear hLv
  have HRv := Lib.hid hRv; clear hRv
  have CF := Lib.hid cF; clear cF
  have CLt := Lib.hid cLt; clear cLt
  have CRt := Lib.hid cRt; clear cRt
  have Names := Lib.hid names; clear names
  have Hnm := Lib.hid hnm; clear hnm
  have Hd := Lib.hid hd; clear hd
  have Hlb := Lib.hid hlb; clear hlb
  have Hrb := Lib.hid hrb; clear hrb
  go_enter Tryz.func4, Tryz.ntmps4
  go_wp2_with fail
  refine Hvc.out.mono ?_
  rintro e w1 ⟨rfl, b1⟩
  rw [hv]
  clear hv
  obtain ⟨q0, q1⟩ := Names.out w1 b1
  have B1 := Lib.hid b1; clear b1
  go_wp2_with fail
  refine (CF.out w1 B1.out).mono ?_
  rintro e w2 ⟨rfl, b2⟩
  have B2 := Lib.hid (B1.out.trans (b2.mono B1.out.size)); clear b2
  clear q0 q1
  go_wp2_with fail
  refine (CLt.out w2 B2.out).mono ?_
  rintro e w3 ⟨rfl, b3⟩
  have B3 := Lib.hid (B2.out.trans (b3.mono B2.out.size)); clear b3
  go_wp2_with fail
  refine (CRt.out w3 B3.out).mono ?_
  rintro e w4 ⟨rfl, b4⟩
  have B4 := Lib.hid (B3.out.trans (b4.mono B3.out.size)); clear b4
  go_wp2
  clear t1 t2 t3 t4
  go_loopw [15] (fun z wr => ∃ n : Nat, n ≤ rs.length ∧ z = .int .i64 n ∧ w.heap.size ≤ wr.heap.size ∧ Hid (Below w.heap.size w wr) ∧ Hid (Kv = firstC (fitC p ms i) (rs.drop n) n)) (fun z _ => rs.length - (intOf z).toNat)
  case atStart => exact ⟨0, Nat.zero_le _, rfl, B4.out.size, B4, hfst⟩
  case round =>
    obtain ⟨n, hn, rfl, hsz, hb, hfst⟩ := hrel
    obtain ⟨wo, rfl⟩ : ∃ wo : World, wo = wr := ⟨_, rfl⟩
    by_cases hlt : n < rs.length
    case neg =>
      have hK : Kv = -1 := by have := hfst.out; rwa [List.drop_eq_nil_of_le (by omega)] at this
      subst hK
      go_wp2_with fail
      refine (Out.out wo hb.out).mono ?_
      rintro e w8 ⟨rfl, b8⟩
      go_wp2
      go_ret
      exact ⟨rfl, b8.out⟩
    case pos =>
    obtain ⟨b7, o7, A7, c7, A8, c8, r, hdr, rfl, hob7, k0, k1, k2, k3, k4, k5, k6, hfits, hgs, hos, hgl, hol⟩ := (H.out.below hb.out).getRul hlt
    have hob7w : b7 < w.heap.size := hob7
    have n0 : (0 : Int) ≤ (n : Int) := Int.natCast_nonneg _
    have n1 : (n : Int) < (rs.length : Int) := by omega
    obtain ⟨W5, hW5⟩ : ∃ W5, W5 = wo.alloc (.cells #[.int .u8 r.name, .int .i64 r.arity, .int .u8 0, .int .u8 0, .slice A7 r.guards.length c7, .int .i64 r.weight, .slice A8 r.out.length c8] 38) := ⟨_, rfl⟩
    have hb5 : Below wo.heap.size wo W5 := by rw [hW5]; exact (Below.refl _ _).alloc (Nat.le_refl _) _
    have hbl5 : Blk W5 wo.heap.size 38 #[.int .u8 r.name, .int .i64 r.arity, .int .u8 0, .int .u8 0, .slice A7 r.guards.length c7, .int .i64 r.weight, .slice A8 r.out.length c8] := by rw [hW5]; exact Blk.new _ _ _
    obtain ⟨X6, hX6⟩ : ∃ X6, X6 = (W5.alloc (.cells #[.int .u8 r.name, .int .i64 r.arity, .int .u8 0, .int .u8 0, .slice A7 r.guards.length c7, .int .i64 r.weight, .slice A8 r.out.length c8] 38)).drew := ⟨_, rfl⟩
    have hb6 : Below W5.heap.size W5 X6 := by rw [hX6]; exact drewK ((Below.refl _ _).alloc (Nat.le_refl _) _)
    have T5 := hb.out.trans (hb5.mono hsz)
    have T6 : Below w.heap.size w X6 := T5.trans (hb6.mono T5.size)
    have hbl6 : Blk X6 W5.heap.size 38 #[.int .u8 r.name, .int .i64 r.arity, .int .u8 0, .int .u8 0, .slice A7 r.guards.length c7, .int .i64 r.weight, .slice A8 r.out.length c8] := by rw [hX6]; exact Blk.new W5 _ _
    have hgs6 : SlAt pFrm (Old X6) X6 A7 c7 r.guards := (hgs.out.keep (w' := X6) fun k hk => (T6.block k hk).trans (hb.out.block k hk).symm).wide fun k hk => by have := T6.size; have : k < w.heap.size := hk; show k < _; omega
    have hos6 : SlAt pShp (Old X6) X6 A8 c8 r.out := (hos.out.keep (w' := X6) fun k hk => (T6.block k hk).trans (hb.out.block k hk).symm).wide fun k hk => by have := T6.size; have : k < w.heap.size := hk; show k < _; omega
    have hsl6 : SlAt pRul (Old X6) X6 (some ⟨W5.heap.size, 0, none⟩) 1 [bareN r] := sl_lit (E := pRul) (xs := [bareN r]) hbl6 ⟨_, [], rfl, ⟨A7, c7, A8, c8, rfl, ⟨hfits.1, hfits.2.1, fits_u8 (n := 0) (by decide), fits_u8 (n := 0) (by decide), hfits.2.2.2.2⟩, hgs6, hos6⟩, rfl⟩ hbl6.lt (by unfold maxLen; simp) rfl
    have hargs6 : SlAt (pI .i64) (Old X6) X6 D d m.args := (hxa.out.keep (w' := X6) fun k hk => T6.block k hk).wide fun k hk => by have := T6.size; have : k < w.heap.size := hk; show k < _; omega
    have hmem : r ∈ rs := mem_of_drop hdr.out
    have hsm1 : Small [bareN r] := ⟨by simp, fun x hx => by rw [List.mem_singleton.1 hx]; exact Hs.out.g r hmem, fun x hx => by rw [List.mem_singleton.1 hx]; exact Hs.out.o r hmem, fun x hx => by rw [List.mem_singleton.1 hx]; exact Hs.out.a r hmem⟩
    have hfc := rFind_calls (some ⟨W5.heap.size, 0, none⟩) 1 [bareN r] D d m X6 hsl6 hargs6 hx8 hsm1
    rw [Fb.out r hmem] at hfc
    obtain ⟨jv, hjv⟩ : ∃ jv, (if fitsF r m = true then (0 : Int) else -1) = jv := ⟨_, rfl⟩
    rw [hjv] at hfc
    rw [hX6] at hfc
    have hcells : ∀ W, Below w.heap.size w W → W.cell? ⟨b7, o7 + n * 7 + 2, none⟩ = some (.int .u8 r.left) ∧ W.cell? ⟨b7, o7 + n * 7 + 3, none⟩ = some (.int .u8 r.right) := fun W hW =>
      ⟨(cell_keep (o := o7 + n * 7 + 2) ((hW.block b7 hob7w).trans (hb.out.block b7 hob7w).symm)).trans k2, (cell_keep (o := o7 + n * 7 + 3) ((hW.block b7 hob7w).trans (hb.out.block b7 hob7w).symm)).trans k3⟩
    have hdn := hfst.out
    rw [hdr.out] at hdn
    obtain ⟨u0, u1⟩ := Names.out W5 T5
    obtain ⟨u2, u3⟩ := Names.out (W5.alloc (.cells #[.int .u8 r.name, .int .i64 r.arity, .int .u8 0, .int .u8 0, .slice A7 r.guards.length c7, .int .i64 r.weight, .slice A8 r.out.length c8] 38)) (T5.alloc T5.size _)
    have y0 := hbl5.cell 0
    have y1 := hbl5.cell 1
    have y2 := hbl5.cell 2
    have y3 := hbl5.cell 3
    have y4 := hbl5.cell 4
    have y5 := hbl5.cell 5
    have y6 := hbl5.cell 6
    have hmono : ∀ W, Below X6.heap.size X6 W → Below w.heap.size w W := fun W hW => T6.trans (hW.mono T6.size)
    rw [hX6] at hmono
    have Hfits := Lib.hid hfits; clear hfits
    have Hgs := Lib.hid hgs; clear hgs
    have Hos := Lib.hid hos; clear hos
    have Hb5 := Lib.hid hb5; clear hb5
    have Hbl5 := Lib.hid hbl5; clear hbl5
    have Hb6 := Lib.hid hb6; clear hb6
    have T5 := Lib.hid T5; clear T5
    have T6 := Lib.hid T6; clear T6
    have Hbl6 := Lib.hid hbl6; clear hbl6
    have Hgs6 := Lib.hid hgs6; clear hgs6
    have Hos6 := Lib.hid hos6; clear hos6
    have Hsl6 := Lib.hid hsl6; clear hsl6
    have Hargs6 := Lib.hid hargs6; clear hargs6
    have Hsm1 := Lib.hid hsm1; clear hsm1
    have Hfc := Lib.hid hfc; clear hfc
    have Hcells := Lib.hid hcells; clear hcells
    have Hdn := Lib.hid hdn; clear hdn
    have Hdr := Lib.hid hdr; clear hdr
    have Hmono := Lib.hid hmono; clear hmono
    have Hjv := Lib.hid hjv; clear hjv
    clear hX6
    go_upto_region 13 with fail
    rw [← hW5]
    have HW5 := Lib.hid hW5; clear hW5
    clear k0 k1 k2 k3 k4 k5 k6
    go_cut [17, 18] (fun s17 s18 wx => s17 = .int .i64 jv ∧ s18 = .int .i64 0 ∧ Hid (Below w.heap.size w wx))
    case first =>
      go_region_with (go_at_call 12; refine Hfc.out.mono ?_; rintro e w7 ⟨rfl, b7'⟩)
      all_goals
        have T7 := Lib.hid (Hmono.out w7 b7'); clear b7'
        clear y0 y1 y2 y3 y4 y5 y6 u0 u1 u2 u3
        go_wp2_with fail
        go_meet
        exact ⟨rfl, rfl, T7⟩
    case rest =>
    obtain ⟨rfl, rfl, T7⟩ := hcut
    obtain ⟨w7, rfl⟩ : ∃ W : World, W = wc := ⟨_, rfl⟩
    have z7 := T7.out.size
    clear y0 y1 y2 y3 y4 y5 y6 u0 u1 u2 u3
    obtain ⟨p2, p3⟩ := Hcells.out w7 T7.out
    have hwl := atB_ways ms Lv r.left Hlb.out
    have hwr := atB_ways ms Rv r.right Hrb.out
    have nmc := fun (a : Nat) (ha : a < ms.length) => nameAt_cell (H1.out.below T7.out) ha
    have Nmc := Lib.hid nmc; clear nmc
    have Hwl := Lib.hid hwl; clear hwl
    have Hwr := Lib.hid hwr; clear hwr
    cases htf : fitsF r m
    case false =>
      have hnx : Kv = firstC (fitC p ms i) (rs.drop (n + 1)) (n + 1) := by
        have := Hdn.out
        rw [firstC_cons, Fit.out, htf] at this
        simpa using this
      have hjn : jv = -1 := by rw [← Hjv.out, htf]; rfl
      subst hjn
      have Hnx := Lib.hid hnx; clear hnx
      go_upto_region 16 with fail
      go_quiet (fail)
      have t8 := below_drewN T7.out nq
      generalize w7.drewN nq = w8 at t8 ⊢
      have T8 := Lib.hid t8; clear t8
      clear p2 p3
      go_wp2
      go_roundw
      case rel => exact ⟨n + 1, hlt, by go_num, T8.out.size, T8, Hnx⟩
      case measure => simp [intOf]; omega
    case true =>
    have hjn : jv = 0 := by rw [← Hjv.out, htf]; rfl
    subst hjn
    have hfit : fitC p ms i r = (atB ms Lv r.left && atB ms Rv r.right) := by rw [Fit.out, htf]; rfl
    have hyes : fitC p ms i r = true → Kv = (n : Int) := fun e => by have := Hdn.out; rwa [firstC_cons, e, if_pos rfl] at this
    have hno : fitC p ms i r = false → Kv = firstC (fitC p ms i) (rs.drop (n + 1)) (n + 1) := fun e => by have := Hdn.out; rw [firstC_cons, e] at this; simpa using this
    have Hfit := Lib.hid hfit; clear hfit
    have Hyes := Lib.hid hyes; clear hyes
    have Hno := Lib.hid hno; clear hno
    rcases Hwl.out with ⟨al, l0⟩ | ⟨al, l0, a, hLa, ha, hna⟩ | ⟨al, l0, hLn⟩ | ⟨al, l0, a, hLa, ha, hna⟩
    case inr.inr.inl =>
      have hnx := Hno.out (by rw [Hfit.out, al]; rfl)
      have d0 : ¬ (0 : Int) ≤ Lv := by omega
      have d1 : decide ((0 : Int) ≤ Lv) = false := decide_eq_false d0
      have Hnx := Lib.hid hnx; clear hnx
      have Al := Lib.hid al; clear al
      go_upto_region 16 with fail
      go_quiet (fail)
      have t8 := below_drewN T7.out nq
      generalize w7.drewN nq = w8 at t8 ⊢
      have T8 := Lib.hid t8; clear t8
      clear p2 p3
      go_wp2
      go_roundw
      case rel => exact ⟨n + 1, hlt, by go_num, T8.out.size, T8, Hnx⟩
      case measure => simp [intOf]; omega
    case inr.inr.inr =>
      have hnx := Hno.out (by rw [Hfit.out, al]; rfl)
      subst hLa
      have g0 := Nmc.out a ha
      have a0 : (0 : Int) ≤ (a : Int) := Int.natCast_nonneg _
      have a1 : (a : Int) < (ms.length : Int) := by omega
      have a2 : decide ((0 : Int) ≤ (a : Int)) = true := decide_eq_true a0
      have Hnx := Lib.hid hnx; clear hnx
      have Al := Lib.hid al; clear al
      go_upto_region 16 with fail
      go_quiet (fail)
      have t8 := below_drewN T7.out nq
      generalize w7.drewN nq = w8 at t8 ⊢
      have T8 := Lib.hid t8; clear t8
      clear p2 p3
      go_wp2
      go_roundw
      case rel => exact ⟨n + 1, hlt, by go_num, T8.out.size, T8, Hnx⟩
      case measure => simp [intOf]; omega
    all_goals
      (try subst hLa)
      (try have g0 := Nmc.out a ha)
      (try have a0 : (0 : Int) ≤ (a : Int) := Int.natCast_nonneg _)
      (try have a1 : (a : Int) < (ms.length : Int) := by omega)
      (try have a2 : decide ((0 : Int) ≤ (a : Int)) = true := decide_eq_true a0)
      rcases Hwr.out with ⟨ar, r0⟩ | ⟨ar, r0, b, hRb, hb2, hnb⟩ | ⟨ar, r0, hRn⟩ | ⟨ar, r0, b, hRb, hb2, hnb⟩
      case inr.inr.inl =>
        have hnx := Hno.out (by rw [Hfit.out, al, ar]; rfl)
        have d0 : ¬ (0 : Int) ≤ Rv := by omega
        have d1 : decide ((0 : Int) ≤ Rv) = false := decide_eq_false d0
        have Hnx := Lib.hid hnx; clear hnx
        have Al := Lib.hid al; clear al
        have Ar := Lib.hid ar; clear ar
        go_upto_region 16 with fail
        go_quiet (fail)
        have t8 := below_drewN T7.out nq
        generalize w7.drewN nq = w8 at t8 ⊢
        have T8 := Lib.hid t8; clear t8
        clear p2 p3
        go_wp2
        go_roundw
        case rel => exact ⟨n + 1, hlt, by go_num, T8.out.size, T8, Hnx⟩
        case measure => simp [intOf]; omega
      case inr.inr.inr =>
        have hnx := Hno.out (by rw [Hfit.out, al, ar]; rfl)
        subst hRb
        have g1 := Nmc.out b hb2
        have b0 : (0 : Int) ≤ (b : Int) := Int.natCast_nonneg _
        have b1 : (b : Int) < (ms.length : Int) := by omega
        have b2 : decide ((0 : Int) ≤ (b : Int)) = true := decide_eq_true b0
        have Hnx := Lib.hid hnx; clear hnx
        have Al := Lib.hid al; clear al
        have Ar := Lib.hid ar; clear ar
        go_upto_region 16 with fail
        go_quiet (fail)
        have t8 := below_drewN T7.out nq
        generalize w7.drewN nq = w8 at t8 ⊢
        have T8 := Lib.hid t8; clear t8
        clear p2 p3
        go_wp2
        go_roundw
        case rel => exact ⟨n + 1, hlt, by go_num, T8.out.size, T8, Hnx⟩
        case measure => simp [intOf]; omega
      case inl =>
        have hK := Hyes.out (by rw [Hfit.out, al, ar]; rfl)
        subst hK
        have eK : ((n : Int) == (n : Int)) = true := beq_self_eq_true _
        have Al := Lib.hid al; clear al
        have Ar := Lib.hid ar; clear ar
        go_upto_region 16 with fail
        go_quiet (fail)
        have t8 := below_drewN T7.out nq
        generalize w7.drewN nq = w8 at t8 ⊢
        have T8 := Lib.hid t8; clear t8
        clear p2 p3
        go_wp2_with fail
        refine (Out.out _ T8.out).mono ?_
        rintro e w9 ⟨rfl, b9⟩
        go_wp2
        go_ret
        exact ⟨rfl, b9.out⟩
      case inr.inl =>
        have hK := Hyes.out (by rw [Hfit.out, al, ar]; rfl)
        subst hK
        subst hRb
        have g1 := Nmc.out b hb2
        have b0 : (0 : Int) ≤ (b : Int) := Int.natCast_nonneg _
        have b1 : (b : Int) < (ms.length : Int) := by omega
        have b2 : decide ((0 : Int) ≤ (b : Int)) = true := decide_eq_true b0
        have eK : ((n : Int) == (n : Int)) = true := beq_self_eq_true _
        have Al := Lib.hid al; clear al
        have Ar := Lib.hid ar; clear ar
        go_upto_region 16 with fail
        go_quiet (fail)
        have t8 := below_drewN T7.out nq
        generalize w7.drewN nq = w8 at t8 ⊢
        have T8 := Lib.hid t8; clear t8
        clear p2 p3
        go_wp2_with fail
        refine (Out.out _ T8.out).mono ?_
        rintro e w9 ⟨rfl, b9⟩
        go_wp2
        go_ret
        exact ⟨rfl, b9.out⟩
end Go.Proofs.YtpeknefmjdipmaaGreatDoor
