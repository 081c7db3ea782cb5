/-
  Layer 42: the walk of the reference's Infer.
-/
import Derived.Test.YtckffdaomjbglaaIr
import Derived.Test.YtckffdaomjbglaaWf
namespace Go.Proofs.Ytckffdaomjbglaa
open Go.RowKit Go.Sort Go.BigFrame
set_option linter.unusedVariables false

/-- the letters that are free from place k on -/
def fromL (l : List Int) (k : Nat) : List Int := (lettersL.drop k).filter fun c => !l.contains c
theorem fromL_zero (l : List Int) : fromL l 0 = freeL l := rfl
theorem fromL_end (l : List Int) : fromL l 52 = [] := rfl
theorem fromL_used {l : List Int} {k : Nat} {x : Int} (hk : k < 52) (hx : lettersL[k]? = some x) (h : l.contains x = true) : fromL l k = fromL l (k + 1) := by
  have hd : lettersL.drop k = x :: lettersL.drop (k + 1) := by
    have hk' : k < lettersL.length := hk
    rw [List.getElem?_eq_getElem hk'] at hx
    rw [List.drop_eq_getElem_cons hk']
    rw [Option.some.inj hx]
  unfold fromL
  rw [hd, List.filter_cons, h]
  rfl
theorem fromL_free {l : List Int} {k : Nat} {x : Int} (hk : k < 52) (hx : lettersL[k]? = some x) (h : l.contains x = false) : fromL l k = x :: fromL l (k + 1) := by
  have hd : lettersL.drop k = x :: lettersL.drop (k + 1) := by
    have hk' : k < lettersL.length := hk
    rw [List.getElem?_eq_getElem hk'] at hx
    rw [List.drop_eq_getElem_cons hk']
    rw [Option.some.inj hx]
  unfold fromL
  rw [hd, List.filter_cons, h]
  rfl
def lettersB : ByteArray := { data := #[65, 66, 67, 68, 69, 70, 71, 72, 73, 74, 75, 76, 77, 78, 79, 80, 81, 82, 83, 84, 85, 86, 87, 88, 89, 90, 97, 98, 99, 100, 101, 102, 103, 104, 105, 106, 107, 108, 109, 110, 111, 112, 113, 114, 115, 116, 117, 118, 119, 120, 121, 122] }
theorem lettersB_size : lettersB.size = 52 := rfl
theorem lettersB_at (k : Nat) (h : k < lettersB.size) : lettersL[k]? = some ((lettersB[k]).toNat : Int) := by
  have h1 : ∀ (k : Fin 52), lettersL[k.val]? = some ((lettersB[k.val]'k.isLt).toNat : Int) := by decide +kernel
  exact h1 ⟨k, h⟩
theorem names_fit {F : Nat → Prop} {w : World} {A : Option Addr} {c : Nat} {ms : List Mod} (h : SlAt pMod F w A c ms) : ∀ x ∈ ms.map Mod.name, Fits .u8 x := by
  intro x hx
  obtain ⟨m, hm, rfl⟩ := List.mem_map.1 hx
  obtain ⟨k, hk, hmk⟩ := List.mem_iff_getElem.1 hm
  obtain ⟨b4, o4, D, d, m', hd, hB, hob, q0, q1, hx8, hxa, hxl⟩ := h.getMod hk
  have := get_of_drop hd.out
  rw [List.getElem?_eq_getElem hk, hmk] at this
  rw [Option.some.inj this]
  exact hx8
theorem names_modOf (l : List Int) : (l.map modOf).map Mod.name = l := by
  rw [List.map_map]
  exact (List.map_congr_left (g := id) (fun x _ => rfl)).trans (List.map_id l)
/-- the world behind the two literals of a round, and the rule in it (no draw) -/
theorem made_rul0 {w6 : World} {base : Nat} {v : Value} {xs : List Rul} (how : Own pRul 65 base (base ≤ ·) w6 v xs) (hz : base ≤ w6.heap.size) {c a b : Int} (hc : Fits .u8 c) (ha : Fits .u8 a) (hb : Fits .u8 b) (W : World)
    (hW : W = ((w6.alloc (.cells #[.int .u8 a, .slice none 0 0, .int .u8 b, .slice none 0 0] 62)).alloc (.cells #[.int .u8 c, .int .i64 0, .int .u8 0, .int .u8 0, .slice none 0 0, .int .i64 0, .slice (some ⟨w6.heap.size, 0, none⟩) 2 2] 65))) :
    Own pRul 65 base (base ≤ ·) W v xs ∧ SlAt pRul (fun q => q = w6.heap.size ∨ q = w6.heap.size + 1) W (some ⟨w6.heap.size + 1, 0, none⟩) 1 [rulO (c, a, b)] ∧ (∀ q, (q = w6.heap.size ∨ q = w6.heap.size + 1) → base ≤ q ∧ q < W.heap.size ∧ some q ≠ v.ownBlock) ∧ base ≤ W.heap.size ∧ Below w6.heap.size w6 W := by
  have hsz : W.heap.size = w6.heap.size + 2 := by rw [hW]; simp
  have hb1 : Blk W w6.heap.size 62 #[.int .u8 a, .slice none 0 0, .int .u8 b, .slice none 0 0] := by
    rw [hW]
    exact (Blk.new w6 _ _).alloc _
  have hb2 : Blk W (w6.heap.size + 1) 65 #[.int .u8 c, .int .i64 0, .int .u8 0, .int .u8 0, .slice none 0 0, .int .i64 0, .slice (some ⟨w6.heap.size, 0, none⟩) 2 2] := by
    rw [hW]
    have := Blk.new (w6.alloc (.cells #[.int .u8 a, .slice none 0 0, .int .u8 b, .slice none 0 0] 62)) 65 #[.int .u8 c, .int .i64 0, .int .u8 0, .int .u8 0, .slice none 0 0, .int .i64 0, .slice (some ⟨w6.heap.size, 0, none⟩) 2 2]
    rw [show (w6.alloc (.cells #[.int .u8 a, .slice none 0 0, .int .u8 b, .slice none 0 0] 62)).heap.size = w6.heap.size + 1 from by simp] at this
    exact this
  have hshp : ∀ {x : Int}, Fits .u8 x → pShp.R (fun q => q = w6.heap.size ∨ q = w6.heap.size + 1) W [.int .u8 x, .slice none 0 0] ⟨x, []⟩ := fun {x} hx => ⟨none, 0, rfl, hx, sl_none⟩
  have hout : SlAt pShp (fun q => q = w6.heap.size ∨ q = w6.heap.size + 1) W (some ⟨w6.heap.size, 0, none⟩) 2 [⟨a, []⟩, ⟨b, []⟩] :=
    sl_lit (E := pShp) (F := fun q => q = w6.heap.size ∨ q = w6.heap.size + 1) (xs := [⟨a, []⟩, ⟨b, []⟩]) (n := 2) hb1 ⟨[.int .u8 a, .slice none 0 0], [.int .u8 b, .slice none 0 0], rfl, hshp ha, [.int .u8 b, .slice none 0 0], [], rfl, hshp hb, rfl⟩ (.inl rfl) (by unfold maxLen; simp) rfl
  refine ⟨?_, ?_, fun q hq => ?_, by omega, ?_⟩
  · rw [hW]; exact (how.alloc _).alloc _
  · exact sl_lit (E := pRul) (F := fun q => q = w6.heap.size ∨ q = w6.heap.size + 1) (xs := [rulO (c, a, b)]) (n := 1) hb2 ⟨_, [], rfl, ⟨none, 0, some ⟨w6.heap.size, 0, none⟩, 2, rfl, ⟨hc, (by show (Lit.int .i64 0).wf = true; decide), (by show (Lit.int .u8 0).wf = true; decide), (by show (Lit.int .u8 0).wf = true; decide), (by show (Lit.int .i64 0).wf = true; decide)⟩, sl_none, hout⟩, rfl⟩ (.inr rfl) (by unfold maxLen; simp) rfl
  · refine ⟨by omega, by omega, fun e => ?_⟩
    have := how.lt q e.symm
    omega
  · rw [hW]
    exact ((Below.refl _ _).alloc (Nat.le_refl _) _).alloc (by simp) _
set_option maxRecDepth 100000 in
set_option maxHeartbeats 4000000 in
theorem refInfer_calls (A : Option Addr) (c : Nat) (ms : List Mod) (most : Int) (w : World) (h : SlAt pMod (Old w) w A c ms) (hl : ms.length ≤ 100000) : Calls Try.prog 12 #[.slice A ms.length c, .int .i64 most] w (InferPost (inferF ms most) w) := by
  have hmx := h.lenle
  have hck := refPlainW_calls A c ms w h
  have H := Lib.hid h; clear h
  have Hck := Lib.hid hck; clear hck
  go_enter Try.func12, Try.ntmps12
  have hLs := lettersB_size
  have hLat := lettersB_at
  generalize hLe : lettersB = LB at hLs hLat
  have hLe' : ({ data := #[65, 66, 67, 68, 69, 70, 71, 72, 73, 74, 75, 76, 77, 78, 79, 80, 81, 82, 83, 84, 85, 86, 87, 88, 89, 90, 97, 98, 99, 100, 101, 102, 103, 104, 105, 106, 107, 108, 109, 110, 111, 112, 113, 114, 115, 116, 117, 118, 119, 120, 121, 122] } : ByteArray) = LB := hLe
  simp only [hLe']
  clear hLe hLe'
  have HLs := Lib.hid hLs; clear hLs
  have HLat := Lib.hid hLat; clear hLat
  go_wp2_with fail
  refine Hck.out.mono ?_
  rintro e w1 ⟨rfl, hb1⟩
  have hz1 := hb1.size
  by_cases hf : plainF ms = 0
  case neg =>
    have e0 : (plainF ms != 0) = true := by simp [hf]
    have hff : inferF ms most = ([], [], plainF ms) := by unfold inferF; rw [if_neg hf]
    have hck1 := refPlainW_calls A c ms w1 (H.out.later hb1)
    have Hb1 := Lib.hid hb1; clear hb1
    have Hff := Lib.hid hff; clear hff
    have Hf := Lib.hid hf; clear hf
    have Hck1 := Lib.hid hck1; clear hck1
    go_wp2_with fail
    refine Hck1.out.mono ?_
    rintro e w2 ⟨rfl, hb2⟩
    have hbw2 := Hb1.out.trans (hb2.mono hz1)
    have Hbw2 := Lib.hid hbw2; clear hbw2
    clear hb2
    go_wp2
    go_ret3
    exact ⟨none, 0, none, 0, by rw [Hff.out]; rfl, by rw [Hff.out]; exact Own.nil, by rw [Hff.out]; exact Own.nil, Hbw2.out⟩
  case pos =>
  have e0 : (plainF ms != 0) = false := by simp [hf]
  by_cases hmo : most < 0 ∨ 30 < most
  · have hff : inferF ms most = ([], [], 2) := by unfold inferF; rw [if_pos hf, if_pos hmo]
    have Hb1 := Lib.hid hb1; clear hb1
    have Hf := Lib.hid hf; clear hf
    have Hff := Lib.hid hff; clear hff
    rcases hmo with hmo | hmo
    · go_wp2
      go_ret3
      exact ⟨none, 0, none, 0, by rw [Hff.out]; rfl, by rw [Hff.out]; exact Own.nil, by rw [Hff.out]; exact Own.nil, Hb1.out⟩
    · have hm2 : ¬ most < 0 := by omega
      go_wp2
      go_ret3
      exact ⟨none, 0, none, 0, by rw [Hff.out]; rfl, by rw [Hff.out]; exact Own.nil, by rw [Hff.out]; exact Own.nil, Hb1.out⟩
  obtain ⟨hm0, hm1⟩ : ¬ most < 0 ∧ ¬ 30 < most := ⟨fun e => hmo (.inl e), fun e => hmo (.inr e)⟩
  have hff : inferF ms most = ((inferL (ms.map Mod.name) most.toNat).1, (inferL (ms.map Mod.name) most.toNat).2, 0) := by unfold inferF; rw [if_pos hf, if_neg hmo]
  obtain ⟨hch, hmn, _⟩ := plain_parts hf
  have hlen : ms.length ≤ 2000 := (checkF_iff.1 hch).1
  have harg : ∀ m ∈ ms, m.args.length ≤ 1000 := by
    intro m hm
    rw [hmn] at hm
    obtain ⟨x, _, rfl⟩ := List.mem_map.1 hm
    show (([] : List Int)).length ≤ 1000
    simp
  have htw := refTwin_calls A c ms w1 (H.out.later hb1) (by omega) harg
  have hln : (ms.map Mod.name).length = ms.length := List.length_map ..
  have hnf := names_fit H.out
  clear hmo hch
  have Hb1 := Lib.hid hb1; clear hb1
  have Hf := Lib.hid hf; clear hf
  have Htw := Lib.hid htw; clear htw
  have Hln := Lib.hid hln; clear hln
  have Hff := Lib.hid hff; clear hff
  have Hmn := Lib.hid hmn; clear hmn
  have Hnf := Lib.hid hnf; clear hnf
  go_wp2_with fail
  refine Htw.out.mono ?_
  rintro e w2 ⟨A2, c2, rfl, hown2, hb2⟩
  have hbw2 := Hb1.out.trans (hb2.mono hz1)
  have hz2 := hbw2.size
  have hs2' : Own pMod 44 w.heap.size (w.heap.size ≤ ·) w2 (.slice A2 ms.length c2) ((ms.map Mod.name).map modOf) := by rw [← Hmn.out]; exact hown2.mono hz1 (fun q hq => Nat.le_trans hz1 hq)
  have hinl : inferL (ms.map Mod.name) most.toNat = joinR [] (inferG (most.toNat - 0) (fromL (ms.map Mod.name) 0) (ms.map Mod.name)) := by rw [fromL_zero]; unfold joinR inferL; simp
  have hff := Hff.out
  obtain ⟨tgt, htgt⟩ : ∃ t, inferL (ms.map Mod.name) most.toNat = t := ⟨_, rfl⟩
  rw [htgt] at hinl hff
  clear Hff
  have hz02 : w.heap.size ≤ w2.heap.size := hz2
  have Hbw2 := Lib.hid hbw2; clear hbw2
  have Hs2' := Lib.hid hs2'; clear hs2'
  have Hinl := Lib.hid hinl; clear hinl
  have Htgt := Lib.hid htgt; clear htgt
  have Hff := Lib.hid hff; clear hff
  clear hown2 hb2
  go_wp2_with fail
  go_loopw [7, 8, 9] (fun av uv iv wr => ∃ (q j nx : Nat) (rest : List Int) (done : List (Int × Int × Int)) (Ax : Option Addr) (cx : Nat) (Ru : Option Addr) (du : Nat), av = .slice Ax q cx ∧ uv = .slice Ru j du ∧ iv = .int .i64 nx ∧ Hid (rest.length = q) ∧ Hid (done.length = j) ∧ q ≤ 100000 ∧ j ≤ nx ∧ nx ≤ 52 ∧ j ≤ most.toNat ∧
    Hid (Below w2.heap.size w2 wr) ∧ w2.heap.size ≤ wr.heap.size ∧ Hid (Own pMod 44 w.heap.size (w.heap.size ≤ ·) wr (.slice Ax q cx) (rest.map modOf)) ∧ Hid (Own pRul 65 w2.heap.size (w2.heap.size ≤ ·) wr (.slice Ru j du) (done.map rulO)) ∧
    Hid (tgt = joinR done (inferG (most.toNat - j) (fromL (ms.map Mod.name) nx) rest))) (fun _ _ i _ => 53 - (intOf i).toNat)
  case atStart => exact ⟨ms.length, 0, 0, ms.map Mod.name, [], A2, c2, none, 0, rfl, rfl, rfl, Hln, rfl, hl, Nat.zero_le _, Nat.zero_le _, Nat.zero_le _, Below.refl _ _, Nat.le_refl _, Hs2', Own.nil, Hinl⟩
  case round =>
    obtain ⟨q, j, nx, rest, done, Ax, cx, Ru, du, rfl, rfl, rfl, hrl, hdl, hq, hjn, hnx, hjm, hbr, hzr, hrs, hru, heq⟩ := hrel
    obtain ⟨wi, rfl⟩ : ∃ wi : World, wi = wr := ⟨_, rfl⟩
    have hbwi : Below w.heap.size w wi := Hbw2.out.trans (hbr.out.mono hz02)
    have Hbwi := Lib.hid hbwi; clear hbwi
    by_cases hjlt : (j : Int) < most
    case neg =>
      have hend : tgt = (rest, done) := by
        rw [heq.out]
        exact joinR_done (.inl (by omega))
      have hr9' := hru.out.mono (base' := w.heap.size) (G' := (w.heap.size ≤ ·)) hz02 (fun q hq => Nat.le_trans hz02 hq)
      have hs9 := hrs.out
      have Hend := Lib.hid hend; clear hend
      have Hr9' := Lib.hid hr9'; clear hr9'
      have Hs9 := Lib.hid hs9; clear hs9
      clear hru
      go_wp2
      go_ret3
      exact ⟨Ax, cx, Ru, du, by simp only [Hff.out, Hend.out, hdl.out, hrl.out]; rfl, by rw [Hff.out, Hend.out, hrl.out]; exact Hs9.out, by rw [Hff.out, Hend.out, hdl.out]; exact Hr9'.out, Hbwi.out⟩
    case pos =>
    go_wp2_with fail
    go_loopw [9] (fun iv wv => ∃ (n : Nat), iv = .int .i64 n ∧ nx ≤ n ∧ n ≤ 52 ∧ Hid (Below wi.heap.size wi wv) ∧ Hid (fromL (ms.map Mod.name) nx = fromL (ms.map Mod.name) n)) (fun i _ => 52 - (intOf i).toNat)
    case atStart => exact ⟨nx, rfl, Nat.le_refl _, hnx, Below.refl _ _, rfl⟩
    case round =>
      obtain ⟨n, rfl, hnn, hn52, hbv, hfl⟩ := hrel
      obtain ⟨wo, rfl⟩ : ∃ wo : World, wo = wr := ⟨_, rfl⟩
      have hbwo : Below w.heap.size w wo := Hbwi.out.trans (hbv.out.mono Hbwi.out.size)
      by_cases hlt : n < 52
      case pos =>
        have hnL : n < LB.size := by rw [HLs.out]; exact hlt
        have hx := HLat.out n hnL
        have hcc := refCount_calls A c ms (LB[n].toNat : Int) wo (H.out.later hbwo)
        have hlt' : (n : Int) < 52 := by omega
        have hn0 : (0 : Int) ≤ (n : Int) := Int.natCast_nonneg _
        have Hx := Lib.hid hx; clear hx
        have Hcc := Lib.hid hcc; clear hcc
        have Hbwo := Lib.hid hbwo; clear hbwo
        go_wp2_with fail
        refine Hcc.out.mono ?_
        rintro e w4 ⟨rfl, hb4⟩
        have hbw4 := hbv.out.trans (hb4.mono hbv.out.size)
        obtain ⟨x, hxe⟩ : ∃ x : Int, (LB[n].toNat : Int) = x := ⟨_, rfl⟩
        rw [hxe]
        have hx2 := Hx.out
        rw [hxe] at hx2
        by_cases hcf : countF x ms = 0
        case neg =>
          have e2 : (0 : Int) < ((countF x ms : Nat) : Int) := by omega
          have hcon : (ms.map Mod.name).contains x = true := by
            cases hc : (ms.map Mod.name).contains x
            · exact absurd (count_free.2 hc) hcf
            · rfl
          have hfl2 := hfl.out.trans (fromL_used hlt hx2 hcon)
          have Hfl2 := Lib.hid hfl2; clear hfl2
          have Hbw4 := Lib.hid hbw4; clear hbw4
          have Hcon := Lib.hid hcon; clear hcon
          have Hx2 := Lib.hid hx2; clear hx2
          have Hxe := Lib.hid hxe; clear hxe
          clear hb4
          go_wp2
          go_roundw
          case rel => exact ⟨n + 1, by go_num, by omega, by omega, Hbw4, Hfl2⟩
          case measure => simp [intOf]; omega
        case pos =>
        have e2 : ¬ (0 : Int) < ((countF x ms : Nat) : Int) := by omega
        have hcon : (ms.map Mod.name).contains x = false := count_free.1 hcf
        have hfl2 := hfl.out.trans (fromL_free hlt hx2 hcon)
        have hxf : Fits .u8 x := letters_fit x (List.mem_of_getElem? hx2)
        have hne : ¬ ((n : Int) = 52) := by omega
        have hneb : ((n : Int) == 52) = false := by simpa using hne
        have hbX : Below wi.heap.size wi w4 := hbw4
        obtain ⟨wX, hwX⟩ : ∃ W, W = w4 := ⟨_, rfl⟩
        rw [← hwX] at hbX ⊢
        have hsl := (own_mods hrs.out hbX).2
        have hrq : (rest.map modOf).length = q := by rw [List.length_map, hrl.out]
        have hbc := refBest_calls Ax cx (rest.map modOf) wX hsl (by rw [hrq]; exact hq)
        rw [hrq, names_modOf] at hbc
        have hfq := names_fit hsl
        rw [names_modOf] at hfq
        have Hfl2 := Lib.hid hfl2; clear hfl2
        have Hbc := Lib.hid hbc; clear hbc
        have Hcon := Lib.hid hcon; clear hcon
        have Hx2 := Lib.hid hx2; clear hx2
        have Hxe := Lib.hid hxe; clear hxe
        have HbX := Lib.hid hbX; clear hbX
        have Hfq := Lib.hid hfq; clear hfq
        have Hxf := Lib.hid hxf; clear hxf
        have Hcf := Lib.hid hcf; clear hcf
        clear hb4 hbw4 hsl hwX
        go_wp2_with fail
        refine Hbc.out.mono ?_
        rintro e w5 ⟨a, b, m, rfl, hbest, hm0', hm1', hb5'⟩
        have hb5 := HbX.out.trans (hb5'.mono HbX.out.size)
        have hbf := bestF_one hbest.out
        by_cases hm2 : m < 2
        · have hend : tgt = (rest, done) := by
            rw [heq.out]
            exact joinR_stop hbf hm2
          have hr9' := (hru.out.later hb5).mono (base' := w.heap.size) (G' := (w.heap.size ≤ ·)) hz02 (fun q hq => Nat.le_trans hz02 hq)
          have hs9 := hrs.out.later hb5
          have hb9 := Hbwi.out.trans (hb5.mono Hbwi.out.size)
          have Hend := Lib.hid hend; clear hend
          have Hr9' := Lib.hid hr9'; clear hr9'
          have Hs9 := Lib.hid hs9; clear hs9
          have Hb9 := Lib.hid hb9; clear hb9
          have Hbf := Lib.hid hbf; clear hbf
          have Hbest := Lib.hid hbest; clear hbest
          clear hb5 hb5'
          go_wp2
          go_ret3
          exact ⟨Ax, cx, Ru, du, by simp only [Hff.out, Hend.out, hdl.out, hrl.out]; rfl, by rw [Hff.out, Hend.out, hrl.out]; exact Hs9.out, by rw [Hff.out, Hend.out, hdl.out]; exact Hr9'.out, Hb9.out⟩
        · have hpr := hbest.out.some (by omega)
          obtain ⟨hpa, hpn⟩ := hpr
          obtain ⟨i0, hi0, p1, p2, p3, p4⟩ := hpa
          have hfa : Fits .u8 a := Hfq.out a (List.mem_of_getElem? p1)
          have hfb : Fits .u8 b := Hfq.out b (List.mem_of_getElem? p2)
          have hjr := joinR_round (done := done) (n := most.toNat - (j + 1)) (c := x) (free := fromL (ms.map Mod.name) (n + 1)) hbf hm2
          have heq2 : tgt = joinR (done ++ [(x, a, b)]) (inferG (most.toNat - (j + 1)) (fromL (ms.map Mod.name) (n + 1)) (putF a b x rest)) := by
            rw [heq.out, Hfl2.out, show most.toNat - j = most.toNat - (j + 1) + 1 from by omega]
            exact hjr
          have hsl5 := (own_mods hrs.out hb5).2
          have hrq : (rest.map modOf).length = q := by rw [List.length_map, hrl.out]
          have hpc := refPut_calls Ax cx (rest.map modOf) a b x w5 hsl5 (by rw [hrq]; exact hq) Hxf.out
          rw [hrq, names_modOf] at hpc
          have hpl := putF_len (a := a) (b := b) (nm := x) rest.length rest (Nat.le_refl _)
          rw [hrl.out] at hpl
          obtain ⟨nrest, hnr⟩ : ∃ l, putF a b x rest = l := ⟨_, rfl⟩
          rw [hnr] at hpl heq2 hpc
          have hru5 := hru.out.later hb5
          have hnL' : n < LB.size := hnL
          have Hbf := Lib.hid hbf; clear hbf
          have Hbest := Lib.hid hbest; clear hbest
          have Hfa := Lib.hid hfa; clear hfa
          have Hfb := Lib.hid hfb; clear hfb
          have Heq2 := Lib.hid heq2; clear heq2
          have Hpc := Lib.hid hpc; clear hpc
          have Hnr := Lib.hid hnr; clear hnr
          have Hru5 := Lib.hid hru5; clear hru5
          have Hb5 := Lib.hid hb5; clear hb5
          clear hb5' hjr hsl5 hpn p1 p2 p3 p4
          go_wp2_with fail
          rw [Hxe.out]
          refine Hpc.out.mono ?_
          rintro e w6 ⟨A6, c6, rfl, own6, b6⟩
          have hb6 := Hb5.out.trans (b6.mono Hb5.out.size)
          have hz5 := Hb5.out.size
          have hz6 := hb6.size
          have hru6 := Hru5.out.later b6
          have how6 := own6.wideG (G' := fun z => w5.heap.size ≤ z ∧ z < w6.heap.size) (fun z hz hg => ⟨hg, hz⟩)
          obtain ⟨W8, hW8⟩ : ∃ W, W = ((w6.alloc (.cells #[.int .u8 a, .slice none 0 0, .int .u8 b, .slice none 0 0] 62)).alloc (.cells #[.int .u8 x, .int .i64 0, .int .u8 0, .int .u8 0, .slice none 0 0, .int .i64 0, .slice (some ⟨w6.heap.size, 0, none⟩) 2 2] 65)) := ⟨_, rfl⟩
          obtain ⟨m1, m2, m3, m4, m5⟩ := made_rul0 hru6 (by omega) Hxf.out Hfa.out Hfb.out W8 hW8
          have hl9 : (done.map rulO ++ [rulO (x, a, b)]).length = j + 1 := by rw [List.length_append, List.length_map, hdl.out]; rfl
          have hr9 : Room (j + 1) := room_of (by omega)
          have hbi8 : Below wi.heap.size wi W8 := hb6.trans (m5.mono (by omega))
          have how8 := how6.later m5
          have hz68 := m5.size
          rw [hW8] at m1 m2 m3 m4
          rw [← Hxe.out] at m1 m2 m3 m4 hl9
          have Hb6 := Lib.hid hb6; clear hb6
          have Hru6 := Lib.hid hru6; clear hru6
          have M1 := Lib.hid m1; clear m1
          have M2 := Lib.hid m2; clear m2
          have M3 := Lib.hid m3; clear m3
          have M4 := Lib.hid m4; clear m4
          have Hl9 := Lib.hid hl9; clear hl9
          have Hr9 := Lib.hid hr9; clear hr9
          have Hbi8 := Lib.hid hbi8; clear hbi8
          have How8 := Lib.hid how8; clear how8
          have HW8 := Lib.hid hW8; clear hW8
          clear own6 b6 m5 how6
          go_wp2_with (at_builtin; refine wpList_catG (E := pRul) (xs := done.map rulO) (v := .slice Ru j du) (base := w2.heap.size) (G := (w2.heap.size ≤ ·)) 35 65 (.agg #[.int .u8 0, .int .i64 0, .int .u8 0, .int .u8 0, .slice none 0 0, .int .i64 0, .slice none 0 0]) 80 (.tmp 59) (.tmp 68) rfl rfl Try.underlying35 (by kernel_rfl) rfl (by decide) rfl M1.out _ 1 [rulO ((LB[n].toNat : Int), a, b)] rfl _ M2.out M3.out (j + 1) Hl9.out Hr9.out (by decide) M4.out ?_; intro A7 c7 w7 hown7 hg7)
          have hg8 := hg7.out
          rw [Hxe.out, ← HW8.out] at hg8
          have hw7 := How8.out.beside hg8 (fun z hz => by
            have h1 := hru.out.lt z hz
            refine ⟨fun h => by have := h.1; omega, fun e => ?_⟩
            have h2 := How8.out.lt z e
            omega)
          have how7 := hw7.mono (base' := w.heap.size) (G' := (w.heap.size ≤ ·)) (by have := Hbwi.out.size; omega) (fun z hz => by have := Hbwi.out.size; have := hz.1; show w.heap.size ≤ z; omega)
          have hz78 := hg8.bel.size
          have hbi7 := hbr.out.trans ((Hbi8.out.mono hzr).trans hg8.bel)
          have hrl7 : (done.map rulO ++ [rulO ((LB[n].toNat : Int), a, b)]) = (done ++ [(x, a, b)]).map rulO := by rw [List.map_append, Hxe.out]; rfl
          have hown7' := hown7.out
          rw [hrl7] at hown7'
          have hz18 := Hbi8.out.size
          have How7 := Lib.hid how7; clear how7
          have Hbi7 := Lib.hid hbi7; clear hbi7
          have Hown7' := Lib.hid hown7'; clear hown7'
          clear hw7 hg8
          go_wp2
          go_roundw
          case rel =>
            exact ⟨nrest.length, j + 1, n + 1, nrest, done ++ [(x, a, b)], A6, c6, A7, c7, rfl, rfl, by go_num, rfl, by unfold Hid; rw [List.length_append, hdl.out]; rfl, by omega, by omega, by omega, by omega, Hbi7, by omega, How7, Hown7', Heq2⟩
          case measure => simp [intOf]; omega
      case neg =>
        obtain rfl : n = 52 := by omega
        have hno : ¬ (((52 : Nat) : Int) < 52) := by decide
        have hbX : Below wi.heap.size wi wo := hbv.out
        obtain ⟨wX, hwX⟩ : ∃ W, W = wo := ⟨_, rfl⟩
        rw [← hwX] at hbX ⊢
        have hsl := (own_mods hrs.out hbX).2
        have hrq : (rest.map modOf).length = q := by rw [List.length_map, hrl.out]
        have hbc := refBest_calls Ax cx (rest.map modOf) wX hsl (by rw [hrq]; exact hq)
        rw [hrq, names_modOf] at hbc
        have hfq := names_fit hsl
        rw [names_modOf] at hfq
        have Hbc := Lib.hid hbc; clear hbc
        have HbX := Lib.hid hbX; clear hbX
        have Hfq := Lib.hid hfq; clear hfq
        clear hsl hwX
        go_wp2_with fail
        refine Hbc.out.mono ?_
        rintro e w5 ⟨a, b, m, rfl, hbest, hm0', hm1', hb5'⟩
        have hb5 := HbX.out.trans (hb5'.mono HbX.out.size)
        have hend : tgt = (rest, done) := by
          rw [heq.out, hfl.out, fromL_end]
          exact joinR_done (.inr rfl)
        have hr9' := (hru.out.later hb5).mono (base' := w.heap.size) (G' := (w.heap.size ≤ ·)) hz02 (fun q hq => Nat.le_trans hz02 hq)
        have hs9 := hrs.out.later hb5
        have hb9 := Hbwi.out.trans (hb5.mono Hbwi.out.size)
        have Hend := Lib.hid hend; clear hend
        have Hr9' := Lib.hid hr9'; clear hr9'
        have Hs9 := Lib.hid hs9; clear hs9
        have Hb9 := Lib.hid hb9; clear hb9
        have Hbest := Lib.hid hbest; clear hbest
        clear hb5 hb5'
        by_cases hm2 : m < 2
        all_goals
          go_wp2
          go_ret3
          exact ⟨Ax, cx, Ru, du, by simp only [Hff.out, Hend.out, hdl.out, hrl.out]; rfl, by rw [Hff.out, Hend.out, hrl.out]; exact Hs9.out, by rw [Hff.out, Hend.out, hdl.out]; exact Hr9'.out, Hb9.out⟩
end Go.Proofs.Ytckffdaomjbglaa
