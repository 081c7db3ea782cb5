/-
  Layer 10: the walk of the reference's Rows.
-/
import Derived.Test.YtdjjhlnhfbcojaaNf
namespace Go.Proofs.Ytdjjhlnhfbcojaa
open Go.RowKit Go.Sort

theorem sl_nil {α : Type} {E : Rp α} {F : Nat → Prop} {w : World} : SlAt E F w none 0 ([] : List α) := ⟨Nat.le_refl _, Nat.zero_le _, fun _ => rfl, fun i x hx => by simp at hx⟩
theorem fits_plain {p : ByteArray} {r : Rul} (h : plainF p r = true) (c : Int) : fitsF r ⟨c, []⟩ = (r.name == c) := by
  unfold plainF at h
  simp only [Bool.and_eq_true] at h
  have h1 : r.guards = [] := List.eq_nil_of_length_eq_zero (by simpa using h.1.1.2)
  unfold fitsF
  rw [h1, show (r.arity == (([] : List Int).length : Int)) = true from by simpa using h.1.1.1]
  simp
theorem first_cases {p : ByteArray} (c : Int) : ∀ (l : List Rul) (k : Nat), l.all (plainF p) = true → (firstFrom ⟨c, []⟩ l k = -1 ∧ l.find? (fun r => r.name == c) = none) ∨
    ∃ j r, firstFrom ⟨c, []⟩ l k = ((k + j : Nat) : Int) ∧ l.drop j = r :: l.drop (j + 1) ∧ l.find? (fun r => r.name == c) = some r
  | [], k, _ => .inl ⟨rfl, rfl⟩
  | r :: l, k, h => by
    rw [List.all_cons, Bool.and_eq_true] at h
    have hf := fits_plain h.1 c
    rw [List.find?_cons]
    cases hn : (r.name == c)
    · rw [firstFrom_no (by rw [hf, hn])]
      rcases first_cases c l (k + 1) h.2 with h1 | ⟨j, r', h1, h2, h3⟩
      · exact .inl h1
      · exact .inr ⟨j + 1, r', by rw [h1]; congr 1; omega, by simpa using h2, h3⟩
    · rw [firstFrom_yes (by rw [hf, hn])]
      exact .inr ⟨0, r, by simp, by simp, rfl⟩

set_option maxRecDepth 100000 in
set_option maxHeartbeats 4000000 in
theorem refRows_calls (A : Option Addr) (c : Nat) (rs : List Rul) (p : ByteArray) (w : World) (h : SlAt pRul (Old w) w A c rs) (hs : Small rs) (hck : checkG rs p = 0) :
    Calls Try.prog 37 #[.slice A rs.length c, .string p] w (MatPost rs p w) := by
  have hmx := h.lenle
  obtain ⟨hc0, hp, hnm, hpl⟩ := checkG_zero hck
  have hcore := (checkR_ok hc0).1
  have hfc := fun x => first_cases (p := p) x rs 0 hpl
  have hmk := fun (wx : World) => run_make_row' (P := Try.prog) 24 2 (.int .i64 0) 8 Try.underlying24 info_int64 rfl .i64 .i64 p.size (by omega) (by omega) wx
  simp only [cellsN_made] at hmk
  have H := Lib.hid h; clear h
  have Hs := Lib.hid hs; clear hs
  have Hnm := Lib.hid hnm; clear hnm
  have Hpl := Lib.hid hpl; clear hpl
  have Hcore := Lib.hid hcore; clear hcore
  have Hfc := Lib.hid hfc; clear hfc
  clear hck hc0
  go_enter Try.func37, Try.ntmps37
  go_wp2
  go_loopw [6, 5] (fun i out wr => ∃ k : Nat, k ≤ p.size ∧ i = .int .i64 k ∧ Hid (Below w.heap.size w wr) ∧ w.heap.size ≤ wr.heap.size ∧
    ∃ Ao co, out = .slice Ao k co ∧ Hid (Own (pSl (pI .i64)) 24 w.heap.size (w.heap.size ≤ ·) wr out ((List.range k).map fun i => (List.range p.size).map (rowsFn rs p i)))) (fun i _ _ => p.size - (intOf i).toNat)
  case atStart => exact ⟨0, Nat.zero_le _, rfl, Below.refl _ _, Nat.le_refl _, none, 0, rfl, Own.nil⟩
  case round =>
    obtain ⟨k, hk, rfl, hb, hsz, Ao, co, rfl, hown⟩ := hrel
    obtain ⟨wo, rfl⟩ : ∃ wo : World, wo = wr := ⟨_, rfl⟩
    by_cases hlt : k < p.size
    · have hfx := byte_fits hlt
      obtain ⟨x, hx⟩ : ∃ x, (p[k].toNat : Int) = x := ⟨_, rfl⟩
      rw [hx] at hfx
      have hxg : (bytesI p).getD k 0 = x := by rw [getD_bytes hlt, hx]
      have hbz : Below w.heap.size w (wo.alloc (.cells (cellsN p.size fun _ => 0) 2)) := hb.out.alloc hsz _
      have hcall := first_calls A c rs none 0 ⟨x, []⟩ (wo.alloc (.cells (cellsN p.size fun _ => 0) 2)) (H.out.later hbz) sl_nil Hcore.out ⟨rfl, by simp⟩
      have hnb := Blk.new wo 2 (cellsN p.size fun _ => 0)
      have hfcx := Hfc.out x
      have ff : firstF rs ⟨x, []⟩ = firstFrom ⟨x, []⟩ rs 0 := rfl
      rw [← ff] at hfcx
      have Hxg := Lib.hid hxg; clear hxg
      have Hbz := Lib.hid hbz; clear hbz
      have Hcall := Lib.hid hcall; clear hcall
      have Hnb := Lib.hid hnb; clear hnb
      clear ff
      rcases hfcx with ⟨hf1, hf2⟩ | ⟨j, r, hf1, hf2, hf3⟩
      · go_wp2_with fail
        refine Hcall.out.mono ?_
        rintro e w1 ⟨rfl, hb1⟩
        rw [hf1]
        have hz1 : wo.heap.size < w1.heap.size := by have := hb1.size; simp at this; omega
        have hbo1 : Below wo.heap.size wo w1 := ((Below.refl _ _).alloc (Nat.le_refl _) _).trans (hb1.mono (by simp))
        have hbl1 := Hnb.out.same (hb1.block _ (by simp))
        have hcm := (hbl1.cell k).trans (cellsN_get _ hlt)
        have hfz := hbl1.free k
        have hset := hbl1.set k (.int .i64 1)
        rw [cellsN_set] at hset
        have hbo2 : Below wo.heap.size wo (w1.setCell ⟨wo.heap.size, k, none⟩ (.int .i64 1)) := hbo1.setCell (Nat.le_refl _) _
        have hrow : ∀ i, i < p.size → (if i = k then (1 : Int) else 0) = rowsFn rs p k i := fun i hi => by unfold rowsFn rowFn; rw [Hxg.out, hf2]
        have Hset := Lib.hid hset; clear hset
        have Hbo2 := Lib.hid hbo2; clear hbo2
        have Hrow := Lib.hid hrow; clear hrow
        have Hf1 := Lib.hid hf1; clear hf1
        have Hf2 := Lib.hid hf2; clear hf2
        clear hb1 hbo1 hbl1
        go_wp2
        obtain ⟨w2, hw2⟩ : ∃ w2, w2 = w1.setCell ⟨wo.heap.size, k, none⟩ (.int .i64 1) := ⟨_, rfl⟩
        rw [← hw2] at Hset Hbo2 ⊢
        have hz2 : wo.heap.size < w2.heap.size := by rw [hw2]; simpa [World.setCell] using hz1
        clear hw2 hcm hfz hz1
        go_loopw [9] (fun i wr => i = .int .i64 0 ∧ wr = w2) (fun _ _ => 0)
        case atStart => exact ⟨rfl, rfl⟩
        case round =>
          obtain ⟨rfl, rfl⟩ := hrel
          have hsx : SlAt (pI .i64) (fun q => q = wo.heap.size) wr (some ⟨wo.heap.size, 0, none⟩) p.size ((List.range p.size).map (rowsFn rs p k)) := by
            have := sl_of_blk (F := fun q => q = wo.heap.size) Hset.out rfl (by unfold maxLen; omega) fun i hi => by
              have h1 := rowsF_pos (rs := rs) p Hs.out.o _ (List.mem_map.2 ⟨k, List.mem_range.2 hlt, rfl⟩) _ (List.mem_map.2 ⟨i, List.mem_range.2 hi, rfl⟩)
              rw [Hrow.out i hi]
              exact fits_i64 (by omega)
            rwa [List.map_congr_left fun i hi => Hrow.out i (List.mem_range.1 hi)] at this
          have hown2 := hown.out.later Hbo2.out
          have hkl : ((List.range k).map fun i => (List.range p.size).map (rowsFn rs p i)).length = k := by simp
          have hR : (pSl (pI .i64)).R (fun q => q = wo.heap.size) wr (Value.slice (some ⟨wo.heap.size, 0, none⟩) p.size p.size).cells.toList ((List.range p.size).map (rowsFn rs p k)) := ⟨_, p.size, by simp [Value.cells], hsx⟩
          have hF : ∀ q, q = wo.heap.size → w.heap.size ≤ q ∧ q < wr.heap.size ∧ some q ≠ (Value.slice Ao k co).ownBlock := by
            rintro q rfl
            refine ⟨hsz, hz2, fun he => ?_⟩
            have := hown.out.lt _ he.symm
            omega
          have hrm : Room ((List.range k).map fun i => (List.range p.size).map (rowsFn rs p i)).length := by rw [hkl]; exact room_of (by omega)
          have hbs : w.heap.size ≤ wr.heap.size := by omega
          have Hown2 := Lib.hid hown2; clear hown2
          have HR := Lib.hid hR; clear hR
          have HF := Lib.hid hF; clear hF
          have Hrm := Lib.hid hrm; clear hrm
          have Hbs := Lib.hid hbs; clear hbs
          have Hkl := Lib.hid hkl; clear hkl
          clear hsx
          go_wp2_with ((with_reducible show wpList _ _ _ (Oper.mk (some 73) _ _ _ _ _ :: _) _ _); refine wpList_push (E := pSl (pI .i64)) (xs := (List.range k).map fun i => (List.range p.size).map (rowsFn rs p i)) (v := .slice Ao k co) (base := w.heap.size) (G := (w.heap.size ≤ ·)) 22 24 (.slice none 0 0) 24 73 (.tmp 71) (.tmp 72) rfl rfl rfl rfl rfl Try.underlying22 info_sl64 rfl (by decide) (fun _ => rfl) (fun _ => rfl) Hown2.out (.slice (some ⟨wo.heap.size, 0, none⟩) p.size p.size) rfl ((List.range p.size).map (rowsFn rs p k)) (fun q => q = wo.heap.size) HR.out HF.out Hrm.out (by decide) Hbs.out ?_; rw [Hkl.out]; intro A7 c7 w7 hown7 hb7 hk7; have Hown7 := Lib.hid hown7; have Hb7 := Lib.hid hb7; clear hown7 hb7 hk7)
          have hbw7 : Below w.heap.size w w7 := (hb.out.trans (Hbo2.out.mono hsz)).trans Hb7.out
          have Hbw7 := Lib.hid hbw7; clear hbw7
          go_roundw
          case rel =>
            refine ⟨k + 1, by omega, by go_num, Hbw7, Hbw7.out.size, A7, c7, rfl, ?_⟩
            unfold Hid; rw [List.range_succ, List.map_append]; exact Hown7.out
          case measure => simp [intOf]; omega
      · have hjl : j < rs.length := by
          have := congrArg List.length hf2
          simp at this; omega
        have hmem := mem_of_drop hf2
        have hpr := List.all_eq_true.1 Hpl.out r hmem
        unfold plainF at hpr
        simp only [Bool.and_eq_true, List.all_eq_true] at hpr
        have hps := hpr.2
        have hlen : r.out.length ≤ 30 := Hs.out.o r hmem
        rw [Nat.zero_add] at hf1
        have Hps := Lib.hid hps; clear hps
        have Hf2 := Lib.hid hf2; clear hf2
        have Hf3 := Lib.hid hf3; clear hf3
        clear hpr hmem
        go_wp2_with fail
        refine Hcall.out.mono ?_
        rintro e w1 ⟨rfl, hb1⟩
        rw [hf1]
        have hz1 : wo.heap.size < w1.heap.size := by have := hb1.size; simp at this; omega
        have hbo1 : Below wo.heap.size wo w1 := ((Below.refl _ _).alloc (Nat.le_refl _) _).trans (hb1.mono (by simp))
        have hbl1 := Hnb.out.same (hb1.block _ (by simp))
        have Hbo1 := Lib.hid hbo1; clear hbo1
        have Hbl1 := Lib.hid hbl1; clear hbl1
        have Hf1 := Lib.hid hf1; clear hf1
        clear hb1
        have hj0 : (0 : Int) ≤ (j : Int) := Int.natCast_nonneg _
        go_wp2
        go_loopw [9] (fun i wr => ∃ m : Nat, m ≤ r.out.length ∧ i = .int .i64 m ∧ Hid (Below wo.heap.size wo wr) ∧ wo.heap.size < wr.heap.size ∧ ∃ f, Hid (Blk wr wo.heap.size 2 (cellsN p.size f)) ∧ Hid (∀ i, i < p.size → f i = tally p (r.out.take m) i)) (fun i _ => r.out.length - (intOf i).toNat)
        case atStart => exact ⟨0, Nat.zero_le _, rfl, Hbo1, hz1, _, Hbl1, fun i _ => rfl⟩
        case round =>
          obtain ⟨m, hm, rfl, hb3, hsz3, f3, hbl3, hf3'⟩ := hrel
          obtain ⟨wq, rfl⟩ : ∃ wq : World, wq = wr := ⟨_, rfl⟩
          have hbw3 : Below w.heap.size w wq := hb.out.trans (hb3.out.mono hsz)
          obtain ⟨b1, o1, A1, c1, A2, c2, r', hd, rfl, hob, k0, k1, k2, k3, k4, k5, k6, hat, hl1, hl2⟩ := (H.out.below hbw3).getRulAt hjl
          obtain rfl : r' = r := by have := hd.out.symm.trans Hf2.out; simpa using this
          have Hbw3 := Lib.hid hbw3; clear hbw3
          clear k0 k1 k2 k3 k4 k5
          by_cases hlt3 : m < r'.out.length
          · obtain ⟨b3, o3, A3, c3, s, hds, rfl, hob3, hs0, hs1, hsc, hsa, hsl⟩ := hat.out.so.getShp hlt3
            have htk : ∀ i, tally p (r'.out.take (m + 1)) i = tally p (r'.out.take m) i + (if atF p s.name = (i : Int) then 1 else 0) := fun i => by
              rw [take_of_drop hds.out, tally_append]; simp [tally]
            have hpS := Hps.out s (mem_of_drop hds.out)
            have hp100 : p.size ≤ 100 := by omega
            cases hbr : (s.name == 91 || s.name == 93)
            · have hat0 : 0 ≤ atF p s.name := by
                unfold plainS at hpS; simp at hpS hbr
                rcases hpS.2 with (h | h) | h
                · exact absurd h hbr.1
                · exact absurd h hbr.2
                · exact h
              rcases atF_cases p s.name with ⟨ha, _⟩ | ⟨q, ha, hq, _⟩
              · omega
              · have hcm2 := (hbl3.out.cell q).trans (cellsN_get f3 hq)
                have hfz := hbl3.out.free q
                have hbd := tally_bd p q (r'.out.take m)
                have hlen2 : (r'.out.take m).length ≤ 30 := by rw [List.length_take]; omega
                have hv := hf3'.out q hq
                have hset := hbl3.out.set q (.int .i64 (f3 q + 1))
                rw [cellsN_set] at hset
                have hbt : Below wo.heap.size wo (wq.setCell ⟨wo.heap.size, q, none⟩ (.int .i64 (f3 q + 1))) := hb3.out.setCell (Nat.le_refl _) _
                have hn3 : ∀ i, i < p.size → (if i = q then f3 q + 1 else f3 i) = tally p (r'.out.take (m + 1)) i := fun i hi => by
                  rw [htk, ha]
                  by_cases he : i = q
                  · subst he; rw [if_pos rfl, if_pos rfl, hv]
                  · rw [if_neg he, if_neg (by omega), hf3'.out i hi]; omega
                rw [← hv] at hbd
                have hv2 : f3 q + 1 ≤ 31 := by omega
                have hv0 : 0 ≤ f3 q := hbd.1
                clear hv hbd hlen2 htk hat0
                have Hset := Lib.hid hset; clear hset
                have Hn3 := Lib.hid hn3; clear hn3
                have Hbt := Lib.hid hbt; clear hbt
                generalize hvq : f3 q = v at hcm2 hv0 hv2 Hbt Hset
                rw [hvq] at Hn3
                have Hvq := Lib.hid hvq; clear hvq
                go_wp2_with fail
                refine (bracket_calls _ _).mono ?_
                rintro e w' ⟨rfl, rfl⟩
                rw [hbr]
                go_wp2_with fail
                refine (at_calls _ _ _ hp100).mono ?_
                rintro e w' ⟨rfl, rfl⟩
                rw [ha]
                go_wp2
                go_roundw
                case rel => exact ⟨m + 1, by omega, by go_num, Hbt, by simp [World.setCell]; omega, _, Hset, Hn3⟩
                case measure => simp [intOf]; omega
            · have hn3 : ∀ i, i < p.size → f3 i = tally p (r'.out.take (m + 1)) i := fun i hi => by
                rw [htk, atF_bracket Hnm.out (by simpa using hbr), if_neg (by omega), hf3'.out i hi]; omega
              have Hn3 := Lib.hid hn3; clear hn3
              clear htk
              go_wp2_with fail
              refine (bracket_calls _ _).mono ?_
              rintro e w' ⟨rfl, rfl⟩
              rw [hbr]
              go_wp2
              go_roundw
              case rel => exact ⟨m + 1, by omega, by go_num, hb3, hsz3, f3, hbl3, Hn3⟩
              case measure => simp [intOf]; omega
          · have hrow : ∀ i, i < p.size → f3 i = rowsFn rs p k i := fun i hi => by
              unfold rowsFn rowFn; rw [Hxg.out, Hf3.out, hf3'.out i hi, List.take_of_length_le (by omega)]
            have Hrow := Lib.hid hrow; clear hrow
            have hsx : SlAt (pI .i64) (fun q => q = wo.heap.size) wq (some ⟨wo.heap.size, 0, none⟩) p.size ((List.range p.size).map (rowsFn rs p k)) := by
              have := sl_of_blk (F := fun q => q = wo.heap.size) hbl3.out rfl (by unfold maxLen; omega) fun i hi => by
                have h1 := rowsF_pos (rs := rs) p Hs.out.o _ (List.mem_map.2 ⟨k, List.mem_range.2 hlt, rfl⟩) _ (List.mem_map.2 ⟨i, List.mem_range.2 hi, rfl⟩)
                rw [Hrow.out i hi]
                exact fits_i64 (by omega)
              rwa [List.map_congr_left fun i hi => Hrow.out i (List.mem_range.1 hi)] at this
            have hown2 := hown.out.later hb3.out
            have hkl : ((List.range k).map fun i => (List.range p.size).map (rowsFn rs p i)).length = k := by simp
            have hR : (pSl (pI .i64)).R (fun q => q = wo.heap.size) wq (Value.slice (some ⟨wo.heap.size, 0, none⟩) p.size p.size).cells.toList ((List.range p.size).map (rowsFn rs p k)) := ⟨_, p.size, by simp [Value.cells], hsx⟩
            have hF : ∀ q, q = wo.heap.size → w.heap.size ≤ q ∧ q < wq.heap.size ∧ some q ≠ (Value.slice Ao k co).ownBlock := by
              rintro q rfl
              refine ⟨hsz, hsz3, fun he => ?_⟩
              have := hown.out.lt _ he.symm
              omega
            have hrm : Room ((List.range k).map fun i => (List.range p.size).map (rowsFn rs p i)).length := by rw [hkl]; exact room_of (by omega)
            have hbs : w.heap.size ≤ wq.heap.size := by omega
            have Hown2 := Lib.hid hown2; clear hown2
            have HR := Lib.hid hR; clear hR
            have HF := Lib.hid hF; clear hF
            have Hrm := Lib.hid hrm; clear hrm
            have Hbs := Lib.hid hbs; clear hbs
            have Hkl := Lib.hid hkl; clear hkl
            clear hsx
            go_wp2_with ((with_reducible show wpList _ _ _ (Oper.mk (some 73) _ _ _ _ _ :: _) _ _); refine wpList_push (E := pSl (pI .i64)) (xs := (List.range k).map fun i => (List.range p.size).map (rowsFn rs p i)) (v := .slice Ao k co) (base := w.heap.size) (G := (w.heap.size ≤ ·)) 22 24 (.slice none 0 0) 24 73 (.tmp 71) (.tmp 72) rfl rfl rfl rfl rfl Try.underlying22 info_sl64 rfl (by decide) (fun _ => rfl) (fun _ => rfl) Hown2.out (.slice (some ⟨wo.heap.size, 0, none⟩) p.size p.size) rfl ((List.range p.size).map (rowsFn rs p k)) (fun q => q = wo.heap.size) HR.out HF.out Hrm.out (by decide) Hbs.out ?_; rw [Hkl.out]; intro A7 c7 w7 hown7 hb7 hk7; have Hown7 := Lib.hid hown7; have Hb7 := Lib.hid hb7; clear hown7 hb7 hk7)
            have hbw7 : Below w.heap.size w w7 := (hb.out.trans (hb3.out.mono hsz)).trans Hb7.out
            have Hbw7 := Lib.hid hbw7; clear hbw7
            go_roundw
            case rel =>
              refine ⟨k + 1, by omega, by go_num, Hbw7, Hbw7.out.size, A7, c7, rfl, ?_⟩
              unfold Hid; rw [List.range_succ, List.map_append]; exact Hown7.out
            case measure => simp [intOf]; omega
    · obtain rfl : k = p.size := by omega
      have hfr := hown.out.fresh
      obtain ⟨A1, c1, hv1, hs1⟩ := hfr
      have Hs1 := Lib.hid hs1; clear hs1
      go_wp2
      go_ret
      refine ⟨Ao, co, rfl, hb.out, ?_⟩
      simp only [Value.slice.injEq] at hv1
      obtain ⟨rfl, _, rfl⟩ := hv1
      exact Hs1.out
end Go.Proofs.Ytdjjhlnhfbcojaa
