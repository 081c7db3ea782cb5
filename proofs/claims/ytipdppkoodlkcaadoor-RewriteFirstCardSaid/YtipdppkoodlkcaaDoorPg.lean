/-
  Layer 6: the walk of Parse.
-/
import Derived.Test.YtipdppkoodlkcaaDoorPf
import Derived.Test.YtipdppkoodlkcaaDoorM1
namespace Go.Proofs.YtipdppkoodlkcaaDoor
open Go.RowKit Go.Sort
set_option linter.unusedVariables false

def ParsePost (s : List UInt8) (w : World) (e : Ending) (w' : World) : Prop :=
  ∃ A c, e = .returned (.tuple #[.slice A (parseF s).1.length c, .int .i64 (parseF s).2]) ∧ Own pMod 38 w.heap.size (w.heap.size ≤ ·) w' (.slice A (parseF s).1.length c) (parseF s).1 ∧ Below w.heap.size w w'
theorem parse_err {s : List UInt8} {w w' : World} (h : parseF s = ([], 12)) (hb : Below w.heap.size w w') : ParsePost s w (.returned (.tuple #[.slice none 0 0, .int .i64 12])) w' := by
  unfold ParsePost
  rw [h]
  exact ⟨none, 0, rfl, Own.nil, hb⟩
theorem parse_none {s : List UInt8} (h : modsG modP s.length s = none) : parseF s = ([], 12) := by
  unfold parseF parseG
  rw [h]; split <;> rfl
theorem map_more (done : List Mod) (m : Mod) (x : Option (List Mod)) : (x.map (m :: ·)).map (done ++ ·) = x.map ((done ++ [m]) ++ ·) := by cases x <;> simp
theorem map_moreI (vals : List Int) (m : Int) (x : Option (List Int)) : (x.map (m :: ·)).map (vals ++ ·) = x.map ((vals ++ [m]) ++ ·) := by cases x <;> simp
theorem str_cell {W : World} {g : Nat} {T : TypeId} {ps : List ByteArray} (h : Blk W g T (ps.map Value.string).toArray) {j : Nat} {x : ByteArray} {rest : List ByteArray} (hd : ps.drop j = x :: rest) : W.cell? ⟨g, j, none⟩ = some (.string x) := by
  rw [h.cell j]
  have := get_of_drop hd
  simp [this]
theorem map_none {α β : Type} {f : α → β} {x : Option α} (h : x = none) : x.map f = none := by rw [h]; rfl

set_option maxRecDepth 100000 in
set_option maxHeartbeats 4000000 in
theorem parse_calls (s : ByteArray) (w : World) (hs : s.size ≤ 60000) (hL : LibAt w) :
    Calls Tryd.prog 27 #[.string s] w (ParsePost s.data.toList w) := by
  have hsl : s.size = s.data.toList.length := Lib.size_eq s
  have HL := Lib.hid hL; clear hL
  by_cases hbig : 50000 < s.size
  · have hr : parseF s.data.toList = ([], 12) := by unfold parseF parseG; rw [if_pos (by omega)]
    have hbig' : (50000 : Int) < (s.size : Int) := by omega
    have Hr := Lib.hid hr; clear hr
    have Hsl := Lib.hid hsl; clear hsl
    go_enter Tryd.func27, Tryd.ntmps27
    go_wp2
    go_ret2
    exact parse_err Hr.out (Below.refl _ _)
  · have hbig' : ¬ (50000 : Int) < (s.size : Int) := by omega
    have hgo : parseF s.data.toList = match modsG modP s.data.toList.length s.data.toList with
      | none => ([], 12)
      | some ws => if checkF ws = 0 then (ws, 0) else ([], 12) := by
        unfold parseF parseG; rw [if_neg (by omega)]; rfl
    have hst : modsG modP s.data.toList.length s.data.toList = (modsG modP s.data.toList.length s.data.toList).map ([] ++ ·) := by cases modsG modP s.data.toList.length s.data.toList <;> rfl
    obtain ⟨L0, hL0⟩ : ∃ L0, s.data.toList = L0 := ⟨_, rfl⟩
    rw [hL0] at hgo hst hsl ⊢
    have Hgo := Lib.hid hgo; clear hgo
    have Hst := Lib.hid hst; clear hst
    have HL0 := Lib.hid hL0; clear hL0
    go_enter Tryd.func27, Tryd.ntmps27
    go_wp2
    go_loopw [0, 4] (fun sv v wr => ∃ (t : ByteArray) (done : List Mod) (Ao : Option Addr) (co f : Nat), sv = .string t ∧ v = .slice Ao done.length co ∧ t.size ≤ 50000 ∧ t.size ≤ f ∧ done.length + t.size ≤ 50000 ∧ Hid (modsG modP L0.length L0 = (modsG modP f t.data.toList).map (done ++ ·)) ∧ Hid (Below w.heap.size w wr) ∧ w.heap.size ≤ wr.heap.size ∧ Hid (Own pMod 38 w.heap.size (w.heap.size ≤ ·) wr (.slice Ao done.length co) done)) (fun sv _ _ => match sv with | .string t => t.size | _ => 0)
    case atStart => exact ⟨s, [], none, 0, L0.length, rfl, rfl, by omega, by omega, by simp; omega, by rw [HL0.out]; exact Hst, Below.refl _ _, Nat.le_refl _, Own.nil⟩
    case round =>
      obtain ⟨t, done, Ao, co, f, rfl, rfl, ht, htf, hdt, hmod, hb, hsz, hown⟩ := hrel
      obtain ⟨wo, rfl⟩ : ∃ wo : World, wo = wr := ⟨_, rfl⟩
      have hlo := HL.out.later hb.out
      cases htl : t.data.toList with
      | nil =>
        have hne0 : t.toList.isEmpty = true := by rw [ByteArray.toList_eq, htl]; rfl
        rw [htl, modsG_nil] at hmod
        have hm2 : modsG modP L0.length L0 = some done := by rw [hmod.out]; simp
        have hgo2 : parseF L0 = if checkF done = 0 then (done, 0) else ([], 12) := by rw [Hgo.out, hm2]
        have hsd : SlAt pMod (Old wo) wo Ao co done := (hown.out.sl'.2).wide fun q hq => hq.2
        have hdl : done.length ≤ 50000 := by omega
        have hck := wordCheck_calls Ao co done wo hsd
        have Hgo2 := Lib.hid hgo2; clear hgo2
        have Hm2 := Lib.hid hm2; clear hm2
        have Hck := Lib.hid hck; clear hck
        have Hmod := Lib.hid hmod; clear hmod
        by_cases hc : checkF done = 0
        · have e0 : (checkF done != 0) = false := by simp [hc]
          have hr : parseF L0 = (done, 0) := by rw [Hgo2.out, if_pos hc]
          have Hr := Lib.hid hr; clear hr
          have Hc := Lib.hid hc; clear hc
          go_wp2_with fail
          refine Hck.out.mono ?_
          rintro e w2 ⟨rfl, hb2⟩
          have hb3 := hb.out.trans (hb2.mono hsz)
          have hown3 := hown.out.later hb2
          have Hb3 := Lib.hid hb3; clear hb3
          have Hown3 := Lib.hid hown3; clear hown3
          clear hb2
          go_wp2
          go_ret2
          exact ⟨Ao, co, by rw [Hr.out]; rfl, by rw [Hr.out]; exact Hown3.out, Hb3.out⟩
        · have e0 : (checkF done != 0) = true := by simp [hc]
          have hr : parseF L0 = ([], 12) := by rw [Hgo2.out, if_neg hc]
          have Hr := Lib.hid hr; clear hr
          have Hc := Lib.hid hc; clear hc
          go_wp2_with fail
          refine Hck.out.mono ?_
          rintro e w2 ⟨rfl, hb2⟩
          have hb3 := hb.out.trans (hb2.mono hsz)
          have Hb3 := Lib.hid hb3; clear hb3
          clear hb2
          go_wp2
          go_ret2
          exact parse_err Hr.out Hb3.out
      | cons c r =>
        obtain ⟨f, rfl⟩ : ∃ f', f = f' + 1 := by
          have := Lib.size_eq t
          rw [htl] at this
          simp at this
          exact ⟨f - 1, by omega⟩
        rw [htl, modsG_cons] at hmod
        have hne0 : t.toList.isEmpty = false := by rw [ByteArray.toList_eq, htl]; rfl
        have htz : t.size = r.length + 1 := by rw [Lib.size_eq t, htl]; rfl
        have hpos : 0 < t.size := by omega
        have hc0 : (t[0]'hpos) = c := by
          have : t.data.toList[0]? = some c := by rw [htl]; rfl
          rw [List.getElem?_eq_getElem (by rw [← Lib.size_eq]; exact hpos)] at this
          exact Option.some.inj this
        obtain ⟨t1, ht1⟩ : ∃ t1 : ByteArray, t.extract 1 t.size = t1 := ⟨_, rfl⟩
        have hd1 : t1.data.toList = r := by rw [← ht1, Lib.extract_to_end, htl]; rfl
        have hz1 : t1.size = r.length := by rw [Lib.size_eq, hd1]
        obtain ⟨W1, hW1⟩ : ∃ W : World, W = wo.alloc (.cells #[.int .u8 (c.toNat : Int), .slice none 0 0] 38) := ⟨_, rfl⟩
        have hblk1 : Blk W1 wo.heap.size 38 #[.int .u8 (c.toNat : Int), .slice none 0 0] := by rw [hW1]; exact Blk.new _ _ _
        have hbw1 : Below wo.heap.size wo W1 := by rw [hW1]; exact (Below.refl _ _).alloc (Nat.le_refl _) _
        have hzw1 : wo.heap.size < W1.heap.size := by rw [hW1]; simp
        have hc8 : Fits .u8 (c.toNat : Int) := fits_u8 (by have := c.toNat_lt; omega)
        have hrm : Room done.length := room_of (by omega)
        have hpf := Tryd.strings_HasPrefix t1 ⟨#[40]⟩ W1
        rw [hd1] at hpf
        have hln : ∀ m : Mod, (done ++ [m]).length = done.length + 1 := fun m => by simp
        have Htz := Lib.hid htz; clear htz
        have Hblk1 := Lib.hid hblk1; clear hblk1
        have Hbw1 := Lib.hid hbw1; clear hbw1
        have HW1 := Lib.hid hW1; clear hW1
        have Hrm := Lib.hid hrm; clear hrm
        have Hln := Lib.hid hln; clear hln
        have Hlo := Lib.hid hlo; clear hlo
        by_cases hp40 : ∃ r', r = 40 :: r'
        · obtain ⟨r', rfl⟩ := hp40
          have hpe : Lib.hasPrefix (40 :: r') (ByteArray.mk #[40]).data.toList = true := by unfold Lib.hasPrefix; rfl
          rw [hpe] at hpf
          obtain ⟨t2, ht2⟩ : ∃ t2 : ByteArray, t1.extract 1 t1.size = t2 := ⟨_, rfl⟩
          have hd2 : t2.data.toList = r' := by rw [← ht2, Lib.extract_to_end, hd1]; rfl
          have hz2 : t2.size = r'.length := by rw [Lib.size_eq, hd2]
          have hpos1 : 0 < t1.size := by rw [hz1]; simp
          have hcut := cut_calls t2 W1 (HL.out.later (hb.out.trans (Hbw1.out.mono hsz))) (by have := Htz.out; rw [List.length_cons] at this; omega)
          rw [hd2] at hcut
          have ht2z : t2.size + 1 = t1.size := by rw [hz2, hz1]; simp
          have ht1z : t1.size + 1 = t.size := by rw [hz1]; exact Htz.out.symm
          have Hmod := Lib.hid hmod; clear hmod
          have Hpf := Lib.hid hpf; clear hpf
          have Hcut := Lib.hid hcut; clear hcut
          have Hz1 := Lib.hid hz1; clear hz1
          have Hz2 := Lib.hid hz2; clear hz2
          have Hd1 := Lib.hid hd1; clear hd1
          have Hd2 := Lib.hid hd2; clear hd2
          have Htl := Lib.hid htl; clear htl
          go_wp2_with fail
          rw [← HW1.out]
          refine Hpf.out.mono ?_
          rintro e w' ⟨rfl, rfl⟩
          go_wp2_with fail
          refine Hcut.out.mono ?_
          rintro e w2 ⟨⟨p, q, ok, rfl, hcase⟩, hb2⟩
          have hzb2 := hb2.size
          have hbw2 := (hb.out.trans (Hbw1.out.mono hsz)).trans (hb2.mono (by omega))
          have hbl2 := Hblk1.out.same (hb2.block _ hzw1)
          cases hcc : cutC 41 r' with
          | none =>
            rw [hcc] at hcase
            obtain rfl : ok = false := hcase.out
            have hr : parseF L0 = ([], 12) := parse_none (by rw [Hmod.out.out, modP_cons, if_pos rfl, hcc]; rfl)
            have Hr := Lib.hid hr; clear hr
            have Hbw2 := Lib.hid hbw2; clear hbw2
            clear hb2 hbl2 hcc
            go_wp2
            go_ret2
            exact parse_err Hr.out Hbw2.out
          | some lr =>
            obtain ⟨l, rest⟩ := lr
            rw [hcc] at hcase
            obtain ⟨hpl, hql, rfl⟩ := hcase.out
            have hmq : modP c (40 :: r') = (allP (splitC 44 l)).map fun ag => (⟨c.toNat, ag⟩, rest) := by rw [modP_cons, if_pos rfl, hcc]
            have hrl := cutC_text hcc
            have hrz : r'.length = l.length + rest.length + 1 := by rw [hrl]; simp; omega
            have hpz : p.size = l.length := by rw [Lib.size_eq, hpl]
            have hqz : q.size = rest.length := by rw [Lib.size_eq, hql]
            have hqt : q.size + 1 + l.length + 1 + 1 = t.size := by have := Htz.out; rw [List.length_cons] at this; omega
            have hsp := split_calls p w2 (HL.out.later hbw2) (by omega)
            unfold PiecesPost at hsp
            rw [hpl] at hsp
            have Hmq := Lib.hid hmq; clear hmq
            have Hsp := Lib.hid hsp; clear hsp
            have Hb2 := Lib.hid hb2; clear hb2
            have Hbl2 := Lib.hid hbl2; clear hbl2
            have Hbw2 := Lib.hid hbw2; clear hbw2
            have Hpl := Lib.hid hpl; clear hpl
            have Hql := Lib.hid hql; clear hql
            have Hpz := Lib.hid hpz; clear hpz
            have Hqz := Lib.hid hqz; clear hqz
            have Hrz := Lib.hid hrz; clear hrz
            clear hcc hcase hrl
            go_wp2_with fail
            refine Hsp.out.mono ?_
            rintro e w3 ⟨ps, rfl, hw3, hps, hpsl⟩
            have hb3 : Below w2.heap.size w2 w3 := by rw [hw3]; exact (Below.refl _ _).alloc (Nat.le_refl _) _
            have hz3 : w2.heap.size < w3.heap.size := by rw [hw3]; simp
            have hpb3 : Blk w3 w2.heap.size 9 (ps.map Value.string).toArray := by rw [hw3]; exact Blk.new _ _ _
            have hbl3 := Hbl2.out.same (hb3.block _ (by omega))
            have hbo3 : Below wo.heap.size wo w3 := (Hbw1.out.trans (Hb2.out.mono (by omega))).trans (hb3.mono (by omega))
            have hpn : ps.length ≤ 60000 := by have := Hpz.out; have := Hrz.out; omega
            have hst0 : allP (splitC 44 l) = (allP ((ps.drop 0).map (·.data.toList))).map ([] ++ ·) := by
              rw [List.drop_zero, hps.out]; cases allP (splitC 44 l) <;> rfl
            have how0 : Own (pI .i64) 3 (w2.heap.size + 1) (fun _ => False) w3 (.slice none 0 0) ([] : List Int) := Own.nil
            have Hpb3 := Lib.hid hpb3; clear hpb3
            have Hbl3 := Lib.hid hbl3; clear hbl3
            have Hbo3 := Lib.hid hbo3; clear hbo3
            have Hst0 := Lib.hid hst0; clear hst0
            have How0 := Lib.hid how0; clear how0
            have Hb3 := Lib.hid hb3; clear hb3
            clear hw3
            go_wp2
            go_loopw [37] (fun i wr => ∃ (j : Nat) (vals : List Int) (Dv : Option Addr) (dv : Nat), j ≤ ps.length ∧ i = .int .i64 j ∧ vals.length = j ∧ Hid (allP (splitC 44 l) = (allP ((ps.drop j).map (·.data.toList))).map (vals ++ ·)) ∧ Hid (Below wo.heap.size wo wr) ∧ w2.heap.size < wr.heap.size ∧ Hid (Blk wr wo.heap.size 38 #[.int .u8 (c.toNat : Int), .slice Dv j dv]) ∧ Hid (Blk wr w2.heap.size 9 (ps.map Value.string).toArray) ∧ Hid (Own (pI .i64) 3 (w2.heap.size + 1) (fun _ => False) wr (.slice Dv j dv) vals)) (fun i _ => ps.length - (intOf i).toNat)
            case atStart => exact ⟨0, [], none, 0, Nat.zero_le _, rfl, rfl, Hst0, Hbo3, hz3, Hbl3, Hpb3, How0⟩
            case round =>
              obtain ⟨j, vals, Dv, dv, hj, rfl, hvl, hall, hb4, hz4, hbl4, hpb4, how4⟩ := hrel
              obtain ⟨wq, rfl⟩ : ∃ wq : World, wq = wr := ⟨_, rfl⟩
              have hbw4 : Below w.heap.size w wq := hb.out.trans (hb4.out.mono hsz)
              by_cases hlt : j < ps.length
              · have hdx : ps.drop j = ps[j] :: ps.drop (j + 1) := List.drop_eq_getElem_cons hlt
                obtain ⟨x, hx⟩ : ∃ x, ps[j] = x := ⟨_, rfl⟩
                rw [hx] at hdx
                have hcx := str_cell hpb4.out hdx
                have hxz : x.size ≤ 60000 := by
                  have hm : x.data.toList ∈ splitC 44 l := by
                    show x.data.toList ∈ splitC 44 l
                    rw [← (show ps.map (fun b : ByteArray => b.data.toList) = splitC 44 l from hps.out)]
                    exact List.mem_map_of_mem (mem_of_drop hdx)
                  have := splitC_piece 44 l _ hm
                  rw [Lib.size_eq]
                  have := Hrz.out; have := Hpz.out; omega
                have hL4 := HL.out.later hbw4
                have hat := atoi_calls x wq hL4 hxz
                rw [hdx, List.map_cons] at hall
                have hall2 : allP (splitC 44 l) = (match numP x.data.toList with
                  | none => none
                  | some n => (allP ((ps.drop (j + 1)).map fun b : ByteArray => b.data.toList)).map (n :: ·)).map (vals ++ ·) := hall.out
                have Hat := Lib.hid hat; clear hat
                have Hall2 := Lib.hid hall2; clear hall2
                have Hdx := Lib.hid hdx; clear hdx
                have Hbw4 := Lib.hid hbw4; clear hbw4
                have HL4 := Lib.hid hL4; clear hL4
                clear hall hx
                go_wp2_with fail
                refine Hat.out.mono ?_
                rintro e w5 ⟨hcase5, hb5⟩
                have hz5 := hb5.size
                have hbw5 : Below w.heap.size w w5 := Hbw4.out.trans (hb5.mono (by omega))
                rcases hcase5 with ⟨v, rfl, hv, hv0, hv1⟩ | ⟨v, T5, p5, rfl, hno⟩
                · have hit := itoaB_calls v w5 (HL.out.later hbw5) hv0 hv1
                  obtain ⟨y, hy⟩ : ∃ y : ByteArray, y = ⟨(Lib.itoa v).toArray⟩ := ⟨_, rfl⟩
                  have hyl : y.data.toList = Lib.itoa v := by rw [hy]
                  rw [← hy] at hit
                  have Hit := Lib.hid hit; clear hit
                  have Hy := Lib.hid hy; clear hy
                  have Hyl := Lib.hid hyl; clear hyl
                  have Hbw5 := Lib.hid hbw5; clear hbw5
                  by_cases hyx : y = x
                  · subst hyx
                    have hnum : numP y.data.toList = some v := by
                      unfold numP
                      rw [hv.out]
                      show (if Lib.itoa v = y.data.toList then some v else none) = _
                      rw [if_pos Hyl.out.symm]
                    have hall3 : allP (splitC 44 l) = (allP ((ps.drop (j + 1)).map (·.data.toList))).map ((vals ++ [v]) ++ ·) := by
                      rw [Hall2.out, hnum]; exact map_moreI _ _ _
                    have ebb : (y.toList != y.toList) = false := bne_self_eq_false _
                    have Hall3 := Lib.hid hall3; clear hall3
                    have Hnum := Lib.hid hnum; clear hnum
                    have Hb5 := Lib.hid hb5; clear hb5
                    go_wp2_with fail
                    refine Hit.out.mono ?_
                    rintro e w6 ⟨rfl, hb6⟩
                    have hz6 := hb6.size
                    have hb46 : Below wq.heap.size wq w6 := Hb5.out.trans (hb6.mono hz5)
                    have hbl6 := hbl4.out.same (hb46.block _ (by omega))
                    have hpb6 := hpb4.out.same (hb46.block _ hz4)
                    have how6 := how4.out.later hb46
                    have hbo6 : Below wo.heap.size wo w6 := hb4.out.trans (hb46.mono (by omega))
                    have hrm6 : Room vals.length := room_of (by omega)
                    have hne6 : some wo.heap.size ≠ (Value.slice Dv j dv).ownBlock := fun he => by have := how4.out.lt _ he.symm; omega
                    have hne7 : some w2.heap.size ≠ (Value.slice Dv j dv).ownBlock := fun he => by have := how4.out.lt _ he.symm; omega
                    have hRv : (pI .i64).R (fun _ => False) w6 (Value.int .i64 v).cells.toList v := ⟨rfl, fits_i64 (by omega)⟩
                    have hln6 : vals.length + 1 = j + 1 := by omega
                    have m1 := hbl6.cell 1
                    simp only [List.getElem?_toArray, List.getElem?_cons_succ, List.getElem?_cons_zero] at m1
                    have hlt6 : wo.heap.size < w6.heap.size := by omega
                    have hlt7 : w2.heap.size < w6.heap.size := by omega
                    have hba6 : w2.heap.size + 1 ≤ w6.heap.size := by omega
                    have Hb46 := Lib.hid hb46; clear hb46
                    have Hbl6 := Lib.hid hbl6; clear hbl6
                    have Hpb6 := Lib.hid hpb6; clear hpb6
                    have How6 := Lib.hid how6; clear how6
                    have Hbo6 := Lib.hid hbo6; clear hbo6
                    have Hrm6 := Lib.hid hrm6; clear hrm6
                    have Hne6 := Lib.hid hne6; clear hne6
                    have Hne7 := Lib.hid hne7; clear hne7
                    have HRv := Lib.hid hRv; clear hRv
                    have Hln6 := Lib.hid hln6; clear hln6
                    clear hb6
                    go_wp2_with ((with_reducible show wpList _ _ _ (Oper.mk (some 57) _ _ _ _ _ :: _) _ _); refine wpList_pushG (E := pI .i64) (xs := vals) (v := .slice Dv j dv) (base := w2.heap.size + 1) (G := fun _ => False) 36 3 (.int .i64 0) 8 57 (.tmp 55) (.tmp 56) rfl rfl rfl rfl rfl Tryd.underlying36 (by kernel_rfl) rfl (by decide) (fun _ => rfl) (fun _ => rfl) How6.out (.int .i64 v) rfl v (fun _ => False) HRv.out (fun _ h => h.elim) (j + 1) Hln6.out Hrm6.out ⟨by decide, by decide⟩ hba6 ?_; intro A7 c7 w7 hown7 hg7; have hbm7 := Hbl6.out.same (hg7.out.oth _ hlt6 Hne6.out); have x7 := hbm7.cell 1; have f7 := hbm7.free 1; have Hbm7 := Lib.hid hbm7; clear hbm7)
                    go_roundw
                    case rel =>
                      have hz7 := hg7.out.bel.size
                      have hs7 : (w7.setCell ⟨wo.heap.size, 1, none⟩ (.slice A7 (j + 1) c7)).heap.size = w7.heap.size := by simp [World.setCell]
                      refine ⟨j + 1, vals ++ [v], A7, c7, hlt, by go_num, by simp; omega, Hall3, ?_, by omega, ?_, ?_, ?_⟩
                      · exact (Hbo6.out.trans (hg7.out.bel.mono (by omega))).setCell (by show wo.heap.size ≤ wo.heap.size; omega) _
                      · have := Hbm7.out.set 1 (.slice A7 (j + 1) c7)
                        unfold Hid
                        simpa using this
                      · have hk7 := Hpb6.out.same (hg7.out.oth _ hlt7 Hne7.out)
                        unfold Hid
                        exact hk7.same (Below.heap_setCell _ _ _ _ (by show w2.heap.size ≠ wo.heap.size; omega))
                      · unfold Hid
                        refine hown7.out.keepG (fun q hq hG => Below.heap_setCell _ _ _ _ ?_) (by omega)
                        rcases hG with hG | hG
                        · exact hG.elim
                        · have := hown7.out.lt q hG
                          show q ≠ wo.heap.size
                          omega
                    case measure => simp [intOf]; omega
                  · have hnum : numP x.data.toList = none := by
                      unfold numP
                      rw [hv.out]
                      show (if Lib.itoa v = x.data.toList then some v else none) = _
                      rw [if_neg fun e => hyx (by rw [Hy.out, e, Lib.mk_data])]
                    have hr : parseF L0 = ([], 12) := parse_none (by
                      have e2 : allP (splitC 44 l) = none := by rw [Hall2.out, hnum]; rfl
                      rw [Hmod.out.out, Hmq.out, e2]; rfl)
                    have ebb : (y.toList == x.toList) = false := by
                      rw [beq_eq_false_iff_ne, ByteArray.toList_eq, ByteArray.toList_eq]
                      intro e
                      exact hyx (by rw [← Lib.mk_data y, e, Lib.mk_data])
                    have Hnum := Lib.hid hnum; clear hnum
                    have Hb5 := Lib.hid hb5; clear hb5
                    have Hr := Lib.hid hr; clear hr
                    go_wp2_with fail
                    refine Hit.out.mono ?_
                    rintro e w6 ⟨rfl, hb6⟩
                    have hbw6 : Below w.heap.size w w6 := Hbw5.out.trans (hb6.mono (by omega))
                    have Hbw6 := Lib.hid hbw6; clear hbw6
                    clear hb6
                    go_wp2
                    go_ret2
                    exact parse_err Hr.out Hbw6.out
                · have hr : parseF L0 = ([], 12) := parse_none (by
                    have e2 : allP (splitC 44 l) = none := by rw [Hall2.out, hno.out]; rfl
                    rw [Hmod.out.out, Hmq.out, e2]; rfl)
                  have Hr := Lib.hid hr; clear hr
                  have Hb5 := Lib.hid hb5; clear hb5
                  have Hbw5 := Lib.hid hbw5; clear hbw5
                  go_wp2
                  go_ret2
                  exact parse_err Hr.out Hbw5.out
              · obtain rfl : j = ps.length := by omega
                have hvals : allP (splitC 44 l) = some vals := by
                  rw [hall.out, List.drop_length]
                  show some (vals ++ []) = _
                  rw [List.append_nil]
                have hmod2 : modsG modP L0.length L0 = (modsG modP f q.data.toList).map ((done ++ [⟨c.toNat, vals⟩]) ++ ·) := by
                  rw [Hmod.out.out, Hmq.out, hvals, Hql.out]; exact map_more _ _ _
                obtain ⟨A3, c3, e3, hsl3⟩ := (how4.out.flat (pI_flat _) (G' := (w2.heap.size + 1 ≤ ·))).fresh
                rw [hvl] at e3
                injection e3 with e31 e32 e33
                subst e31 e33
                have hR : pMod.R (fun q => w2.heap.size + 1 ≤ q ∧ q < wq.heap.size) wq [.int .u8 (c.toNat : Int), .slice Dv ps.length dv] (⟨c.toNat, vals⟩ : Mod) := ⟨Dv, dv, by rw [hvl], hc8, hsl3⟩
                have howq := hown.out.later hb4.out
                have hF : ∀ q, (w2.heap.size + 1 ≤ q ∧ q < wq.heap.size) → w.heap.size ≤ q ∧ q < wq.heap.size ∧ some q ≠ (Value.slice Ao done.length co).ownBlock := fun q hq => ⟨by omega, hq.2, fun he => by have := (hown.out.lt q he.symm).2; omega⟩
                have m0 := (hbl4.out.cell 0).trans rfl
                have m1 := (hbl4.out.cell 1).trans rfl
                have hbaq : w.heap.size ≤ wq.heap.size := by omega
                have Hvals := Lib.hid hvals; clear hvals
                have Hmod2 := Lib.hid hmod2; clear hmod2
                have HR := Lib.hid hR; clear hR
                have Howq := Lib.hid howq; clear howq
                have HF := Lib.hid hF; clear hF
                have Hbw4 := Lib.hid hbw4; clear hbw4
                clear hsl3
                go_wp2_with ((with_reducible show wpList _ _ _ (Oper.mk (some 64) _ _ _ _ _ :: _) _ _); refine wpList_pushG (E := pMod) (xs := done) (v := .slice Ao done.length co) (base := w.heap.size) (G := (w.heap.size ≤ ·)) 23 38 (.agg #[.int .u8 0, .slice none 0 0]) 32 64 (.tmp 62) (.tmp 63) rfl rfl rfl rfl rfl Tryd.underlying23 (by kernel_rfl) rfl (by decide) (fun _ => rfl) (fun _ => rfl) Howq.out (.agg #[.int .u8 (c.toNat : Int), .slice Dv ps.length dv]) rfl ⟨c.toNat, vals⟩ (fun q => w2.heap.size + 1 ≤ q ∧ q < wq.heap.size) HR.out HF.out (done.length + 1) rfl Hrm.out ⟨by decide, by decide⟩ hbaq ?_; intro A6 c6 w6 hown6 hg6)
                go_roundw
                case rel =>
                  have hz6 := hg6.out.bel.size
                  refine ⟨q, done ++ [⟨c.toNat, vals⟩], A6, c6, f, rfl, by rw [Hln.out], by omega, by omega, by rw [Hln.out]; omega, Hmod2, Hbw4.out.trans hg6.out.bel, by omega, ?_⟩
                  unfold Hid; rw [Hln.out]; exact hown6.out
                case measure => simp; omega
        · have hpe : Lib.hasPrefix r (ByteArray.mk #[40]).data.toList = false := by
            unfold Lib.hasPrefix
            cases r with
            | nil => rfl
            | cons b r' =>
              have hb : b ≠ 40 := fun e => hp40 ⟨r', by rw [e]⟩
              simp [List.isPrefixOf, Ne.symm hb]
          rw [hpe] at hpf
          have hmp : modP c r = some (⟨c.toNat, []⟩, r) := by
            cases r with
            | nil => rfl
            | cons b r' => rw [modP_cons, if_neg fun e => hp40 ⟨r', by rw [e]⟩]
          rw [hmp] at hmod
          have hmod2 : modsG modP L0.length L0 = (modsG modP f t1.data.toList).map ((done ++ [⟨c.toNat, []⟩]) ++ ·) := by
            rw [hmod.out, hd1]; exact map_more _ _ _
          have hR : pMod.R (fun _ => False) W1 [.int .u8 (c.toNat : Int), .slice none 0 0] (⟨c.toNat, []⟩ : Mod) := ⟨none, 0, by simp, hc8, ⟨Nat.le_refl _, by simp, fun _ => rfl, fun i x hx => by simp at hx⟩⟩
          have hown1 := hown.out.later Hbw1.out
          have hbw2 := hb.out.trans (Hbw1.out.mono hsz)
          have m0 := (Hblk1.out.cell 0).trans rfl
          have m1 := (Hblk1.out.cell 1).trans rfl
          have ht1z : t1.size + 1 = t.size := by rw [hz1]; exact Htz.out.symm
          have Hmod2 := Lib.hid hmod2; clear hmod2
          have Hpf := Lib.hid hpf; clear hpf
          have HR := Lib.hid hR; clear hR
          have Hown1 := Lib.hid hown1; clear hown1
          have Hbw2 := Lib.hid hbw2; clear hbw2
          have Hz1 := Lib.hid hz1; clear hz1
          have Hd1 := Lib.hid hd1; clear hd1
          have Htl := Lib.hid htl; clear htl
          clear hmp hmod
          go_wp2_with fail
          rw [← HW1.out]
          refine Hpf.out.mono ?_
          rintro e w' ⟨rfl, rfl⟩
          go_wp2_with ((with_reducible show wpList _ _ _ (Oper.mk (some 64) _ _ _ _ _ :: _) _ _); refine wpList_pushG (E := pMod) (xs := done) (v := .slice Ao done.length co) (base := w.heap.size) (G := (w.heap.size ≤ ·)) 23 38 (.agg #[.int .u8 0, .slice none 0 0]) 32 64 (.tmp 62) (.tmp 63) rfl rfl rfl rfl rfl Tryd.underlying23 (by kernel_rfl) rfl (by decide) (fun _ => rfl) (fun _ => rfl) Hown1.out (.agg #[.int .u8 (c.toNat : Int), .slice none 0 0]) rfl ⟨c.toNat, []⟩ (fun _ => False) HR.out (fun _ h => h.elim) (done.length + 1) rfl Hrm.out ⟨by decide, by decide⟩ (by omega) ?_; intro A6 c6 w6 hown6 hg6)
          go_roundw
          case rel =>
            have hz6 := hg6.out.bel.size
            refine ⟨t1, done ++ [⟨c.toNat, []⟩], A6, c6, f, rfl, by rw [Hln.out], by omega, by omega, by rw [Hln.out]; omega, Hmod2, Hbw2.out.trans hg6.out.bel, by omega, ?_⟩
            unfold Hid; rw [Hln.out]; exact hown6.out
          case measure => simp; omega
end Go.Proofs.YtipdppkoodlkcaaDoor
